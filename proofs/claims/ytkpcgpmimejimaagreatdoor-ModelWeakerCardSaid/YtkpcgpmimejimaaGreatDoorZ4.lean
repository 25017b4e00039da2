/- Contracts: numbers; the fault of a token. Contracts: the next token. Contracts: the iterator over tokens. Contracts: Lex; is it a word. Contracts: Lex; is it a word. Contracts: names; the locations of a program. Contracts: parts of an instruction. Contract: an instruction without the fields that it does not need. The engine, part Q: '==' of nested structs and arrays, cell by cell. '==' at structs and arrays: the general part. Contracts: the conditions of an instruction. Contracts: the conditions of an instruction together; a thread. Contracts: the paths of a thread. Contracts: pairs put into a relation; a total order put into a relation. Contracts: a list backwards; a total order put into a relation. Contracts: a total order put into a relation. Contracts: the coherence orders of a location's writes. Executions in memory; a choice of paths in memory. -/
import Derived.Test.YtkpcgpmimejimaaGreatDoorZ3
import Derived.Test.YtkpcgpmimejimaaGreatDoorZ2
import Derived.Test.YtkpcgpmimejimaaGreatDoorZ1
import Derived.Laws.StructEq
import Derived.ChangeKeysEq
set_option linter.unusedSimpArgs false
set_option linter.unusedVariables false
namespace Go.Proofs.YtkpcgpmimejimaaGreatDoor
open Go.Vc Go.RowKit Go.Sei
def numV (l : List UInt8) : Nat := l.foldl (fun v c => 10 * v + (c.toNat - 48)) 0
theorem numV_snoc {s : List UInt8} {k : Nat} (h : k < s.length) : numV (s.take (k + 1)) = 10 * numV (s.take k) + (s[k].toNat - 48) := by
 unfold numV; rw [List.take_succ_eq_append_getElem h,List.foldl_append]; rfl
theorem cls_dig {c : UInt8} (h : digB c = true) : 48 ≤ c.toNat ∧ c.toNat ≤ 57 := by
 unfold digB at h
 have h : clsL c = 4 := of_decide_eq_true h
 unfold clsL at h
 cases h1 : isLet c with
 | true => rw [h1] at h; cases h
 | false =>
  rw [h1] at h
  cases h2 : isDig c with
  | true => unfold isDig at h2; simp at h2; omega
  | false =>
   rw [h2] at h
   revert h
   cases eqB c 32 || eqB c 9 <;> cases eqB c 10 <;> cases eqB c 95 <;> cases eqB c 35 <;> cases markB c <;> (intro h; cases h)
theorem Num_c (s : List UInt8) (hs : s.length ≤ 140737488351232) (w : World) : Calls Tryz.prog 201 #[strV s] w fun e w' => ∃ v,e = .returned (.tuple #[u8 v,.bool (numL s)]) ∧ w = w' := by
 refine calls_of_M (S := sg 47) (sgOk _) (args := [strV s]) (.s .p (.c .p .p)) Tryz.func201 rfl rfl (Nat.le_of_ble_eq_true rfl) rfl ?_
 have hnl : numL s = (decide (1 ≤ s.length) && (decide (s.length ≤ 3) && (!(decide (s.head? = some 48) && decide (1 < s.length)) && (s.all digB && decide (numV s ≤ 255))))) := rfl
 refine ⟨Unit,fun _ => ⟨[(0,strV s)],[]⟩,fun _ X => (1 ≤ s.length ∧ s.length ≤ 3 ∧ (decide (s.head? = some 48) && decide (1 < s.length)) = false) ∧ w = X,?_,?_⟩
 ·refine And.intro (fun h1 => ?_) (fun h1 => ?_)
  ·have h1 : (s.length : Int) < 1 := of_decide_eq_true h1
   refine brT ?_
   refine brT ?_
   exact ⟨0,by rw [hnl,decide_eq_false (by omega)]; rfl,rfl⟩
  have h1 : ¬ (s.length : Int) < 1 := of_decide_eq_false h1
  refine And.intro (fun h2 => ?_) (fun h2 => ?_)
  ·have h2 : (3 : Int) < (s.length : Int) := of_decide_eq_true h2
   refine brT ?_
   exact ⟨0,by rw [hnl,decide_eq_false (p := s.length ≤ 3) (by omega)]; simp; rfl,rfl⟩
  have h2 : ¬ (3 : Int) < (s.length : Int) := of_decide_eq_false h2
  have h0 : 0 < s.length := by omega
  have hh : s.head? = some s[0] := by rw [List.head?_eq_getElem?,List.getElem?_eq_getElem h0]
  refine ⟨0,rfl,h0,s[0],bs_at h0,?_⟩
  refine And.intro (fun h3 => ?_) (fun h3 => ?_)
  ·have h3 : s[0] = 48 := by
    apply UInt8.toNat_inj.1
    have h3 : ((s[0].toNat : Nat) : Int) = 48 := of_decide_eq_true h3
    have : (48 : UInt8).toNat = 48 := rfl
    omega
   refine And.intro (fun h4 => ?_) (fun h4 => ?_)
   ·have h4 : (1 : Int) < (s.length : Int) := of_decide_eq_true h4
    exact ⟨0,by rw [hnl,hh,h3,decide_eq_true (p := 1 < s.length) (by omega)]; simp; rfl,rfl⟩
   ·have h4 : ¬ (1 : Int) < (s.length : Int) := of_decide_eq_false h4
    exact ⟨(),⟨.cons rfl .nil,rfl⟩,⟨by omega,by omega,by rw [decide_eq_false (p := 1 < s.length) (by omega),Bool.and_false]⟩,rfl⟩
  ·refine brF ?_
   exact ⟨(),⟨.cons rfl .nil,rfl⟩,⟨by omega,by omega,by
    have : ¬ s[0] = 48 := fun e => by rw [e] at h3; cases h3
    rw [hh,decide_eq_false (by simpa using this),Bool.false_and]⟩,rfl⟩
 rintro _ _ ⟨⟨h1,h2,h3⟩,rfl⟩
 have hnl : numL s = (s.all digB && decide (numV s ≤ 255)) := by rw [hnl,decide_eq_true h1,decide_eq_true h2,h3]; rfl
 rw [hnl]
 refine ⟨Nat,fun k => ⟨[(0,strV s),(4,i64 (numV (s.take k) : Nat)),(25,i64 s.length),(26,i64 (k : Nat))],[]⟩,fun k X => k ≤ s.length ∧ (∀ c ∈ s.take k,digB c = true) ∧ numV (s.take k) < 10 ^ k ∧ w = X,fun k => s.length - k,0,⟨.cons rfl (.cons rfl (.cons rfl (.cons rfl .nil))),rfl⟩,⟨Nat.zero_le _,by simp,Nat.one_pos,rfl⟩,?_⟩
 rintro k _ ⟨hk,hdg,hv,rfl⟩
 dsimp only at hk hdg hv ⊢
 refine And.intro (fun hc => ?_) (fun hc => ?_)
 ·have hc : (k : Int) < (s.length : Int) := of_decide_eq_true hc
  have hl : k < s.length := by omega
  refine ⟨k,rfl,hl,s[k],bs_at hl,?_⟩
  refine Calls.mono (classOf_c _ _) ?_
  rintro e _ ⟨rfl,rfl⟩
  have hd : decide ((clsL s[k] : Int) = 4) = digB s[k] := nat_dec (b := 4)
  refine And.intro (fun hi => ?_) (fun hi => ?_)
  ·have hi : digB s[k] = false := by
    have h1 : (!decide ((clsL s[k] : Int) = 4)) = true := hi
    rw [hd] at h1; simpa using h1
   have : s.all digB = false := by
    rw [List.all_eq_false]
    exact ⟨s[k],List.getElem_mem _,by rw [hi]; simp⟩
   exact ⟨0,by rw [this]; rfl,rfl⟩
  ·have hi : digB s[k] = true := by
    have h1 : (!decide ((clsL s[k] : Int) = 4)) = false := hi
    rw [hd] at h1; simpa using h1
   obtain ⟨d1,d2⟩ := cls_dig hi
   have hv3 : numV (s.take k) < 1000 := Nat.lt_of_lt_of_le hv (by
    have : k ≤ 3 := by omega
    exact Nat.pow_le_pow_right (by decide) this)
   have hsn := numV_snoc hl
   refine ⟨((10 * numV (s.take k) : Nat) : Int),(wrap_i64 (by omega)).trans (by omega),?_⟩
   refine ⟨k,rfl,hl,s[k],bs_at hl,?_⟩
   refine ⟨((s[k].toNat - 48 : Nat) : Int),(wrap_u8 (by omega)).trans (by omega),?_⟩
   refine ⟨((s[k].toNat - 48 : Nat) : Int),(wrap_i64 (by omega)).trans (by omega),?_⟩
   refine ⟨(numV (s.take (k + 1)) : Int),(wrap_i64 (by omega)).trans (by omega),?_⟩
   refine ⟨(k + 1 : Nat),(wrap_i64 (by omega)).trans (by omega),?_⟩
   refine ⟨k + 1,⟨.cons rfl (.cons rfl (.cons rfl (.cons rfl .nil))),rfl⟩,⟨hl,?_,?_,rfl⟩,by show s.length - (k + 1) < s.length - k; omega⟩
   ·rw [List.take_succ_eq_append_getElem hl]
    intro c hc
    rcases List.mem_append.1 hc with hc | hc
    ·exact hdg c hc
    ·simp only [List.mem_singleton] at hc
     rw [hc]; exact hi
   ·rw [hsn,Nat.pow_succ]; omega
 ·have hc : ¬ (k : Int) < (s.length : Int) := of_decide_eq_false hc
  obtain rfl : k = s.length := by omega
  rw [List.take_length] at hdg hv
  have ha : s.all digB = true := List.all_eq_true.2 hdg
  rw [ha,List.take_length]
  have hv3 : numV s < 1000 := Nat.lt_of_lt_of_le hv (Nat.pow_le_pow_right (by decide) h2)
  refine And.intro (fun h5 => ?_) (fun h5 => ?_)
  ·have h5 : (255 : Int) < (numV s : Int) := of_decide_eq_true h5
   exact ⟨0,by rw [decide_eq_false (by omega)]; rfl,rfl⟩
  ·have h5 : ¬ (255 : Int) < (numV s : Int) := of_decide_eq_false h5
   refine ⟨((UInt8.ofNat (numV s)).toNat : Int),(wrap_u8 (by omega)).trans (by rw [UInt8.toNat_ofNat']; omega),?_⟩
   exact ⟨UInt8.ofNat (numV s),by rw [decide_eq_true (by omega)]; rfl,rfl⟩
theorem fault3 {t : Tok} (h : t.kind = 3) (hl : 0 < t.text.length) : faultL t = if clsL t.text[0] = 6 then 0 else 40 := by
 obtain ⟨k,x,p⟩ := t
 have h : k = 3 := h
 subst h
 cases x with
 | nil => exact absurd hl (Nat.lt_irrefl 0)
 | cons a r => rfl
theorem fault_c (t : Tok) (ht : t.kind = 3 → t.text ≠ []) (hs : t.text.length ≤ 140737488351232) (w : World) : Calls Tryz.prog 189 #[.agg (tokE.enc t).toArray] w fun e w' => e = .returned (i64 (faultL t)) ∧ Below w.heap.size w w' := by
 refine calls_of_E (S := sg 30) (sgOk _) (args := [.agg (tokE.enc t).toArray]) Tryz.func189 rfl rfl (Nat.le_of_ble_eq_true rfl) rfl ?_
 have hb0 : Below w.heap.size w (w.alloc (.cells (tokE.enc t).toArray 210)) := (Below.refl _ _).alloc (Nat.le_refl _) _
 have f0 := hnew w (.cells (tokE.enc t).toArray 210)
 have c0 : Cells (w.alloc (.cells (tokE.enc t).toArray 210)) ⟨w.heap.size,0,none⟩ [u8 t.kind,strV t.text,i64 t.pos] := cells_block f0
 have kd : ∀ k : UInt8,decide ((t.kind.toNat : Int) = (k.toNat : Int)) = decide (t.kind = k) := fun k => by
  rw [decide_eq_decide]; exact u8_eq
 refine ⟨_,cells_at c0 (i := 0) rfl,?_⟩
 refine And.intro (fun h1 => ?_) (fun h1 => ?_)
 ·have h1 : t.kind = 1 := of_decide_eq_true ((kd 1).symm.trans h1)
  have e : faultL t = if 16 < t.text.length then 42 else 0 := by unfold faultL; rw [if_pos h1]
  rw [e]
  refine ⟨_,cells_at c0 (i := 1) rfl,?_⟩
  refine And.intro (fun h2 => ?_) (fun h2 => ?_)
  ·have h2 : (16 : Int) < (t.text.length : Int) := of_decide_eq_true h2
   exact ⟨by rw [if_pos (by omega)]; rfl,hb0⟩
  ·have h2 : ¬ (16 : Int) < (t.text.length : Int) := of_decide_eq_false h2
   exact ⟨by rw [if_neg (by omega)]; rfl,hb0⟩
 have h1 : ¬ t.kind = 1 := of_decide_eq_false ((kd 1).symm.trans h1)
 refine And.intro (fun h2 => ?_) (fun h2 => ?_)
 ·have h2 : t.kind = 2 := of_decide_eq_true ((kd 2).symm.trans h2)
  have e : faultL t = if numL t.text then 0 else 41 := by unfold faultL; rw [if_neg h1,if_pos h2]
  rw [e]
  refine ⟨_,cells_at c0 (i := 1) rfl,?_⟩
  refine Calls.mono (Num_c t.text hs _) ?_
  rintro e _ ⟨v,rfl,rfl⟩
  refine And.intro (fun h3 => ?_) (fun h3 => ?_)
  ·have h3 : (!numL t.text) = true := h3
   have h3 : numL t.text = false := by simpa using h3
   exact ⟨by rw [h3]; rfl,hb0⟩
  ·have h3 : (!numL t.text) = false := h3
   have h3 : numL t.text = true := by simpa using h3
   exact ⟨by rw [h3]; rfl,hb0⟩
 have h2 : ¬ t.kind = 2 := of_decide_eq_false ((kd 2).symm.trans h2)
 refine And.intro (fun h3 => ?_) (fun h3 => ?_)
 ·have h3 : t.kind = 3 := of_decide_eq_true ((kd 3).symm.trans h3)
  have hne := ht h3
  have hl : 0 < t.text.length := List.length_pos_iff.2 hne
  have e : faultL t = if clsL t.text[0] = 6 then 0 else 40 := fault3 h3 hl
  rw [e]
  refine ⟨_,cells_at c0 (i := 1) rfl,?_⟩
  refine ⟨0,rfl,hl,t.text[0],bs_at hl,?_⟩
  refine Calls.mono (classOf_c _ _) ?_
  rintro e _ ⟨rfl,rfl⟩
  refine And.intro (fun h4 => ?_) (fun h4 => ?_)
  ·have h4 : (!decide ((clsL t.text[0] : Int) = 6)) = true := h4
   have h4 : ¬ clsL t.text[0] = 6 := by simp at h4; omega
   exact ⟨by rw [if_neg h4]; rfl,hb0⟩
  ·have h4 : (!decide ((clsL t.text[0] : Int) = 6)) = false := h4
   have h4 : clsL t.text[0] = 6 := by simp at h4; omega
   exact ⟨by rw [if_pos h4]; rfl,hb0⟩
 have h3 : ¬ t.kind = 3 := of_decide_eq_false ((kd 3).symm.trans h3)
 exact ⟨by unfold faultL; rw [if_neg h1,if_neg h2,if_neg h3]; rfl,hb0⟩
end Go.Proofs.YtkpcgpmimejimaaGreatDoor
namespace Go.Proofs.YtkpcgpmimejimaaGreatDoor
open Go.Vc Go.RowKit Go.Sei
theorem grown_new {a b c : World} {g r : Nat} (h : a.grownBy b (some g)) (k : b.grownBy c (some r)) (hr : a.heap.size ≤ r) : a.grownBy c (some g) :=
 ⟨k.os.trans h.os,k.tape.trans h.tape,k.output.trans h.output,Nat.le_trans h.size k.size,fun i hi hne => (k.block i (Nat.lt_of_lt_of_le hi h.size) (fun e => by simp only [Option.some.injEq] at e; omega)).trans (h.block i hi hne)⟩
theorem min_run {x y : Int} {T : Array TypeId} {t : TypeId} {w : World} {K : Value → World → Prop} (k : K (.int .i64 (if y < x then y else x)) w) : SatR ((Builtin.min_ T t [Value.int .i64 x,.int .i64 y].toArray).run Tryz.prog w) K :=
 SatR.mk (v := .int .i64 (if y < x then y else x)) (w' := w) (by simp [Builtin.min_,Builtin.min2]) k
section
variable {s : List UInt8} {f a : Nat} {op : Bool}
theorem next_tok (h : passL s a < s.length) (h2 : ¬ clsL s[passL s a] = 2) : nextX s (f + 1) a op = some (tokL s (passL s a) s[passL s a],endL s (passL s a) s[passL s a],true) := by
 unfold nextX; rw [List.getElem?_eq_getElem h]; simp only [if_neg h2]
theorem next_end (h : atEndL s (passL s a) = true) : nextX s (f + 1) a true = some (⟨4,[],passL s a⟩,min (passL s a + 1) s.length,false) := by
 unfold nextX
 by_cases hp : passL s a < s.length
 ·rw [atEnd_lt hp] at h
  have h := of_decide_eq_true h
  rw [List.getElem?_eq_getElem hp]; simp only [if_pos h]; rfl
 ·rw [List.getElem?_eq_none (by omega)]; rfl
theorem next_over (h : s.length ≤ passL s a) : nextX s (f + 1) a false = none := by
 unfold nextX; rw [List.getElem?_eq_none h]; rfl
theorem next_more (h : passL s a < s.length) (h2 : clsL s[passL s a] = 2) : nextX s (f + 1) a false = nextX s f (min (passL s a + 1) s.length) false := by
 conv => lhs; unfold nextX
 rw [List.getElem?_eq_getElem h]; simp only [if_pos h2]; rfl
theorem pass_ge : a ≤ passL s a := by
 have h1 : a ≤ blanksL s a := Nat.le_add_right _ _
 unfold passL
 split
 ·split
  ·omega
  ·exact h1
 ·exact h1
end
def zTok : Tok := ⟨0,[],0⟩
theorem next_c {g a : Nat} {s : List UInt8} {op : Bool} {w : World} (h : ScV w g s a op) (ha : a ≤ s.length) (hs : s.length ≤ 140737488351232) :
  Calls Tryz.prog 188 #[.pointer (some ⟨g,0,none⟩)] w fun e w' => ∃ t a' op' ok,e = .returned (.tuple #[.agg (tokE.enc t).toArray,.bool ok]) ∧ (ok = true → nextX s (s.length + 2) a op = some (t,a',op')) ∧ (ok = false → nextX s (s.length + 2) a op = none) ∧
   a' ≤ s.length ∧ ScV w' g s a' op' ∧ w.grownBy w' (some g) := by
 refine calls_of_E (S := sg 57) (sgOk _) (args := [.pointer (some ⟨g,0,none⟩)]) Tryz.func188 rfl rfl (Nat.le_of_ble_eq_true rfl) rfl ?_
 obtain ⟨r,hr⟩ : ∃ r,r = w.heap.size := ⟨_,rfl⟩
 have hgl : g < r := by rw [hr]; exact hlt h
 obtain ⟨W0,hW0⟩ : ∃ W0,W0 = w.alloc (.cells (tokE.enc zTok).toArray 210) := ⟨_,rfl⟩
 have hb0 : Below w.heap.size w W0 := by rw [hW0]; exact (Below.refl _ _).alloc (Nat.le_refl _) _
 have f0 : W0.heap[r]? = some (.cells (tokE.enc zTok).toArray 210 (0,0)) := by rw [hW0,hr]; exact hnew w _
 have h0 : ScV W0 g s a op := h.below hb0
 refine ⟨Nat × Nat × Bool,fun k => ⟨[(0,.pointer (some ⟨g,0,none⟩)),(2,.pointer (some ⟨r,0,none⟩))],[]⟩,fun k X => s.length + 1 ≤ k.1 + k.2.1 ∧ k.2.1 ≤ s.length ∧ nextX s (k.1 + 1) k.2.1 k.2.2 = nextX s (s.length + 2) a op ∧ ScV X g s k.2.1 k.2.2 ∧ w.grownBy X (some g) ∧ X.heap[r]? = some (.cells (tokE.enc zTok).toArray 210 (0,0)),
  fun k => s.length - k.2.1,(s.length + 1,a,op),⟨.cons rfl (.cons (by rw [hr]; rfl) .nil),rfl⟩,⟨by omega,ha,rfl,by subst hW0; exact h0,by subst hW0; exact grown_of_below hb0,by subst hW0; exact f0⟩,?_⟩
 clear hW0 hb0 f0 h0 W0
 rintro ⟨f,k,o⟩ X ⟨hf,hk,hn,hX,gX,fX⟩
 dsimp only at hf hk hn hX gX fX ⊢
 have fillR : ∀ (t : Tok) (Y : World),Y.heap[r]? = some (.cells (tokE.enc zTok).toArray 210 (0,0)) → ∀ (K : World → Prop),(∀ R,R.heap[r]? = some (.cells (tokE.enc t).toArray 210 (0,0)) → Y.grownBy R (some r) → K R) →
   SatR ((storeVar 210 ⟨r,0,none⟩ (.agg (tokE.enc t).toArray)).run Tryz.prog Y) fun _ w' => K w' := fun t Y fY K q =>
  store_box (v := .agg (tokE.enc t).toArray) (ttOk.get 210 _ rfl) fY rfl rfl rfl (q _ (setRow_new fY) (grown_setRow Y _ _))
 have keepR : ∀ {A B : World},A.grownBy B (some g) → A.heap[r]? = some (.cells (tokE.enc zTok).toArray 210 (0,0)) → B.heap[r]? = some (.cells (tokE.enc zTok).toArray 210 (0,0)) := fun hg hA => (hg.block _ (hlt hA) (fun e => by simp only [Option.some.injEq] at e; omega)).trans hA
 have keepS : ∀ {A B : World} {a : Nat} {o : Bool} {q : Nat},A.grownBy B (some q) → g ≠ q → ScV A g s a o → ScV B g s a o := fun hg hq hA => (hg.block _ (hlt hA) (fun e => hq (by simpa using e))).trans hA
 refine Calls.mono (pass_c hX hk hs) ?_
 rintro e Y ⟨⟨v,rfl⟩,hY,gY⟩
 have hp := pass_le (s := s) hk
 have hpk := pass_ge (s := s) (a := k)
 have fY := keepR gY fX
 have gwY := grown_trans gX gY
 refine Calls.mono (atEnd_c hY.cells (hlt hY)) ?_
 rintro e Z ⟨rfl,hbZ⟩
 have hZ := hY.below hbZ
 have gwZ := grown_b gwY hbZ
 have fZ := block_below hbZ fY
 refine And.intro (fun hc => ?_) (fun hc => ?_)
 ·have hc : atEndL s (passL s k) = false := by
   have h1 : (!atEndL s (passL s k)) = true := hc
   simpa using h1
  have hl : passL s k < s.length := by
   by_cases h1 : passL s k < s.length
   ·exact h1
   ·rw [atEnd_ge (by omega)] at hc; cases hc
  rw [atEnd_lt hl] at hc
  have hc := of_decide_eq_false hc
  rw [next_tok hl hc] at hn
  refine put_open hZ true fun U hU gU sU => ?_
  have gwU := grown_trans gwZ gU
  have fU := keepR gU fZ
  refine Calls.mono (token_c hU hl hs) ?_
  rintro e V ⟨rfl,hV,gV⟩
  have gwV := grown_trans gwU gV
  refine fillR _ V (keepR gV fU) _ fun R fR gR => ?_
  refine ⟨_,rfl,cells_block fR,?_⟩
  exact ⟨_,_,_,true,rfl,fun _ => hn.symm,fun h => (by cases h),(end_ge hl _).2,keepS gR (by omega) hV,grown_new gwV gR (by omega)⟩
 have hc : atEndL s (passL s k) = true := by
  have h1 : (!atEndL s (passL s k)) = false := hc
  simpa using h1
 refine ⟨_,cells_at hZ.cells (i := 1) rfl,?_⟩
 refine ⟨tokE.enc ⟨4,[],passL s k⟩,rfl,?_⟩
 refine store_new (X := Z) (v := .agg (tokE.enc ⟨4,[],passL s k⟩).toArray) (ttOk.get 210 _ rfl) rfl rfl rfl fun U hbU fU4 sU => ?_
 have fU4 : U.heap[Z.heap.size]? = some (.cells (tokE.enc ⟨4,[],passL s k⟩).toArray 210 (0,0)) := fU4
 have hU := hZ.below hbU
 have gwU := grown_b gwZ hbU
 have fU := block_below hbU fZ
 have hzs : r < Z.heap.size := hlt fZ
 refine Calls.mono (over_c hU.cells) ?_
 rintro e V ⟨rfl,hbV⟩
 have hV := hU.below hbV
 have gwV := grown_b gwU hbV
 have fV := block_below hbV fU
 have fV4 := block_below hbV fU4
 refine DrawE.ord [17] [0,1,2,3,4,5,6,7,8,9,10,11,12,13,14,15,16,17] (by kernel_rfl) ?_
 have hVd : ScV V.drew g s (passL s k) o := hV
 refine ⟨_,cells_at hVd.cells (i := 1) rfl,?_⟩
 refine ⟨(passL s k + 1 : Nat),(wrap_i64 (by omega)).trans (by omega),?_⟩
 refine ⟨_,cells_at hVd.cells (i := 0) rfl,?_⟩
 refine min_run ?_
 refine ⟨Below.refl _ _,?_⟩
 have hmin : (if ((s.length : Nat) : Int) < ((passL s k + 1 : Nat) : Int) then ((s.length : Nat) : Int) else ((passL s k + 1 : Nat) : Int)) = ((min (passL s k + 1) s.length : Nat) : Int) := by
  split <;> omega
 have e5 : Value.int .i64 (if (((bs s).size : Nat) : Int) < ((passL s k + 1 : Nat) : Int) then (((bs s).size : Nat) : Int) else ((passL s k + 1 : Nat) : Int)) = i64 (min (passL s k + 1) s.length : Nat) := by
  rw [show (bs s).size = s.length from rfl,hmin]; rfl
 rw [e5]
 refine put_at hVd (min (passL s k + 1) s.length) fun R hR gR sR => ?_
 have gwR := grown_trans (grown_trans gwV (grown_of_below (Below.refl _ V).drew)) gR
 have fR := keepR gR (hdr fV)
 have fR4 : R.heap[Z.heap.size]? = some (.cells (tokE.enc ⟨4,[],passL s k⟩).toArray 210 (0,0)) := (gR.block _ (hlt (hdr fV4)) (fun e => by simp only [Option.some.injEq] at e; omega)).trans (hdr fV4)
 refine ⟨_,cells_at (cells_block hR) (i := 2) rfl,?_⟩
 refine And.intro (fun ho => ?_) (fun ho => ?_)
 ·have ho : o = true := ho
  subst ho
  rw [next_end hc] at hn
  refine put_open hR false fun T hT gT sT => ?_
  have gwT := grown_trans gwR gT
  have fT := keepR gT fR
  have fT4 : T.heap[Z.heap.size]? = some (.cells (tokE.enc ⟨4,[],passL s k⟩).toArray 210 (0,0)) := (gT.block _ (hlt fR4) (fun e => by simp only [Option.some.injEq] at e; omega)).trans fR4
  refine ⟨_,rfl,cells_block fT4,hlt fT4,?_⟩
  refine fillR ⟨4,[],passL s k⟩ T fT _ fun L fL gL => ?_
  refine ⟨_,rfl,cells_block fL,?_⟩
  exact ⟨_,_,_,true,rfl,fun _ => hn.symm,fun h => (by cases h),Nat.min_le_right _ _,keepS gL (by omega) hT,grown_new gwT gL (by omega)⟩
 ·have ho : o = false := ho
  subst ho
  refine And.intro (fun h5 => ?_) (fun h5 => ?_)
  ·have h5 : s.length ≤ passL s k := of_decide_eq_true h5
   rw [next_over h5] at hn
   refine ⟨tokE.enc zTok,rfl,?_⟩
   refine fillR zTok R fR _ fun L fL gL => ?_
   refine ⟨_,rfl,cells_block fL,?_⟩
   exact ⟨_,_,_,false,rfl,fun h => (by cases h),fun _ => hn.symm,Nat.min_le_right _ _,keepS gL (by omega) hR,grown_new gwR gL (by omega)⟩
  ·have h5 : ¬ s.length ≤ passL s k := of_decide_eq_false h5
   have hl : passL s k < s.length := by omega
   have h2 : clsL s[passL s k] = 2 := by rw [atEnd_lt hl] at hc; exact of_decide_eq_true hc
   rw [next_more hl h2] at hn
   have hmn : min (passL s k + 1) s.length = passL s k + 1 := Nat.min_eq_left (by omega)
   obtain ⟨f',rfl⟩ : ∃ f',f = f' + 1 := ⟨f - 1,by omega⟩
   exact ⟨(f',min (passL s k + 1) s.length,false),⟨.cons rfl (.cons rfl .nil),rfl⟩,⟨by show _ ≤ f' + min _ _; omega,Nat.min_le_right _ _,hn,hR,gwR,fR⟩,by show s.length - min _ _ < s.length - k; omega⟩
end Go.Proofs.YtkpcgpmimejimaaGreatDoor
namespace Go.Proofs.YtkpcgpmimejimaaGreatDoor
open Go.Vc Go.RowKit Go.Sei
def bOp (op : Bool) : Nat := if op then 1 else 0
theorem next_cases {s : List UInt8} {f a a' : Nat} {op op' : Bool} {t : Tok} (h : nextX s (f + 1) a op = some (t,a',op')) :
  (∃ hl : passL s a < s.length,t = tokL s (passL s a) s[passL s a] ∧ a' = endL s (passL s a) s[passL s a] ∧ op' = true) ∨ (op = true ∧ t = ⟨4,[],passL s a⟩ ∧ a' = min (passL s a + 1) s.length ∧ op' = false) ∨
   (op = false ∧ passL s a < s.length ∧ nextX s f (min (passL s a + 1) s.length) false = some (t,a',op')) := by
 by_cases hp : passL s a < s.length
 ·by_cases h2 : clsL s[passL s a] = 2
  ·cases op with
   | true =>
    rw [next_end (by rw [atEnd_lt hp]; exact decide_eq_true h2)] at h
    simp only [Option.some.injEq,Prod.mk.injEq] at h
    exact .inr (.inl ⟨rfl,h.1.symm,h.2.1.symm,h.2.2.symm⟩)
   | false =>
    rw [next_more hp h2] at h
    exact .inr (.inr ⟨rfl,hp,h⟩)
  ·rw [next_tok hp h2] at h
   simp only [Option.some.injEq,Prod.mk.injEq] at h
   exact .inl ⟨hp,h.1.symm,h.2.1.symm,h.2.2.symm⟩
 ·cases op with
  | true =>
   rw [next_end (atEnd_ge (by omega))] at h
   simp only [Option.some.injEq,Prod.mk.injEq] at h
   exact .inr (.inl ⟨rfl,h.1.symm,h.2.1.symm,h.2.2.symm⟩)
  | false => rw [next_over (by omega)] at h; cases h
theorem next_dec {s : List UInt8} {t : Tok} {a' : Nat} {op' : Bool} : ∀ {f a : Nat} {op : Bool},nextX s f a op = some (t,a',op') → a ≤ s.length →
  a' ≤ s.length ∧ 2 * (s.length - a') + bOp op' < 2 * (s.length - a) + bOp op ∧ (t.kind = 3 → t.text ≠ []) ∧ t.text.length ≤ s.length
 | 0,_,_,h,_ => by cases h
 | f + 1,a,op,h,ha => by
  have hpa := pass_ge (s := s) (a := a)
  have hpl := pass_le ha
  rcases next_cases h with ⟨hl,rfl,rfl,rfl⟩ | ⟨rfl,rfl,rfl,rfl⟩ | ⟨rfl,hl,h'⟩
  ·obtain ⟨e1,e2⟩ := end_ge hl s[passL s a]
   refine ⟨e2,?_,fun _ => ?_,?_⟩
   ·have : bOp true = 1 := rfl
    omega
   ·intro he
    have h1 : ((s.drop (passL s a)).take (endL s (passL s a) s[passL s a] - passL s a)).length = 0 := by
     have : (tokL s (passL s a) s[passL s a]).text = [] := he
     exact congrArg List.length this
    rw [List.length_take,List.length_drop] at h1
    omega
   ·show ((s.drop (passL s a)).take _).length ≤ _
    rw [List.length_take,List.length_drop]; omega
  ·refine ⟨Nat.min_le_right _ _,?_,fun h => (by cases h),Nat.zero_le _⟩
   have h1 : bOp true = 1 := rfl
   have h0 : bOp false = 0 := rfl
   omega
  ·obtain ⟨h1,h2,h3⟩ := next_dec h' (Nat.min_le_right _ _)
   refine ⟨h1,?_,h3⟩
   omega
theorem toks_step {s : List UInt8} {f a a' : Nat} {op op' : Bool} {t : Tok} (h : nextX s (s.length + 2) a op = some (t,a',op')) : toksL s (f + 1) a op = t :: toksL s f a' op' := by
 show (match nextX s (s.length + 2) a op with
  | some (t,a',op') => t :: toksL s f a' op'
  | none => []) = _
 rw [h]
theorem toks_stop {s : List UInt8} {f a : Nat} {op : Bool} (h : nextX s (s.length + 2) a op = none) : toksL s (f + 1) a op = [] := by
 show (match nextX s (s.length + 2) a op with
  | some (t,a',op') => t :: toksL s f a' op'
  | none => []) = _
 rw [h]
def StT (pre : List Tok) (vs : List Value) (_ : World) : Prop := ∃ t,pre.getLast? = some t ∧ vs = [.agg (tokE.enc t).toArray,i64 (faultL t)]
theorem tokens_c {g : Nat} {w : World} : Calls Tryz.prog 155 #[.pointer (some ⟨g,0,none⟩)] w fun e w' => e = .returned (.func (.func 187) #[] #[.pointer (some ⟨w.heap.size,0,none⟩)]) ∧ w' = w.alloc (.cells #[.pointer (some ⟨g,0,none⟩)] 251) := by
 refine calls_of_E (S := sg 4) (sgOk _) (args := [.pointer (some ⟨g,0,none⟩)]) Tryz.func155 rfl rfl (Nat.le_of_ble_eq_true rfl) rfl ?_
 exact ⟨rfl,rfl⟩
theorem tokens1_c {g bx : Nat} {s : List UInt8} {W0 : World} (h : ScV W0 g s 0 false) (hbx : W0.heap[bx]? = some (.cells #[.pointer (some ⟨g,0,none⟩)] 251 (0,0))) (hne : bx ≠ g) (hs : s.length ≤ 140737488351232) :
  IterO Tryz.prog 187 [.pointer (some ⟨bx,0,none⟩)] (toksOf s) W0 (fun k => k = bx) (fun k => k = g) StT := by
 intro yl Fp J Jx W hsz hrd hrf hJ hJx hy h0
 have hbW : W.heap[bx]? = some (.cells #[.pointer (some ⟨g,0,none⟩)] 251 (0,0)) := (hrd bx (.inl rfl)).trans hbx
 have hgW : ScV W g s 0 false := (hrd g (.inr rfl)).trans h
 have hbs : bx < W0.heap.size := hlt hbx
 have hgs : g < W0.heap.size := hlt h
 refine calls_of_E (S := sg 23) (sgOk _) (args := [.func (.yield yl) #[] #[],.pointer (some ⟨bx,0,none⟩)]) Tryz.func187 rfl rfl (Nat.le_of_ble_eq_true rfl) rfl ?_
 let Inv : List Tok → World → Prop := fun pre X => J pre X ∧ W.heap.size ≤ X.heap.size ∧ X.heap[bx]? = some (.cells #[.pointer (some ⟨g,0,none⟩)] 251 (0,0)) ∧ ¬ Fp X bx
 have stepG : ∀ pre X Y,Inv pre X → X.grownBy Y (some g) → Inv pre Y ∧ ∀ k,Fp Y k → Fp X k := fun pre X Y ⟨h1,h2,h3,h4⟩ hg => by
  have hst : StepO W.heap.size (fun k => k = g) Fp X Y := ⟨hg.os,hg.tape,hg.output,hg.size,fun k hk hf => hg.block k hk (fun e => by
   have e : g = k := (by simpa using e : k = g).symm
   rcases hf with hf | hf
   ·exact hf.2 e.symm
   ·exact (hJ.lt _ _ _ h1 hf).2 e.symm)⟩
  obtain ⟨j1,j2⟩ := hJ.step _ _ _ h1 hst
  refine ⟨⟨j1,Nat.le_trans h2 hg.size,(hg.block _ (hlt h3) (fun e => hne (by simpa using e))).trans h3,fun hf => h4 (j2 _ hf)⟩,j2⟩
 have stepB : ∀ pre X Y,Inv pre X → Below X.heap.size X Y → Inv pre Y ∧ ∀ k,Fp Y k → Fp X k := fun pre X Y hI hb => stepG pre X Y hI (grown_of_below hb)
 have I0 : Inv [] W := ⟨h0,Nat.le_refl _,hbW,hrf bx rfl⟩
 refine ⟨_,cells_at (cells_block hbW) (i := 0) rfl,?_⟩
 refine Calls.mono (next_c hgW (Nat.zero_le _) hs) ?_
 rintro e Y ⟨t,a,op,ok,rfl,hok,hno,ha,hY,gY⟩
 obtain ⟨I1,_⟩ := stepG [] W Y I0 gY
 refine store_new (X := Y) (v := .agg (tokE.enc t).toArray) (ttOk.get 210 _ rfl) rfl rfl rfl fun Z hbZ fZ sZ => ?_
 have fZ : Z.heap[Y.heap.size]? = some (.cells (tokE.enc t).toArray 210 (0,0)) := fZ
 obtain ⟨I2,q2⟩ := stepB [] Y Z I1 hbZ
 refine ⟨List Tok × Nat × Nat × Bool × Bool × Tok × Nat,fun q => ⟨[(0,.func (.yield yl) #[] #[]),(1,.pointer (some ⟨bx,0,none⟩)),(3,.pointer (some ⟨q.2.2.2.2.2.2,0,none⟩)),(4,.bool q.2.2.2.2.1)],[]⟩,
  fun q X => Inv q.1 X ∧ (q.2.2.2.2.1 = true → toksOf s = q.1 ++ q.2.2.2.2.2.1 :: toksL s q.2.1 q.2.2.1 q.2.2.2.1) ∧ (q.2.2.2.2.1 = false → toksOf s = q.1) ∧ (q.2.2.2.2.1 = true → 2 * (s.length - q.2.2.1) + bOp q.2.2.2.1 < q.2.1) ∧ q.2.2.1 ≤ s.length ∧ ScV X g s q.2.2.1 q.2.2.2.1 ∧
   X.heap[q.2.2.2.2.2.2]? = some (.cells (tokE.enc q.2.2.2.2.2.1).toArray 210 (0,0)) ∧ W.heap.size ≤ q.2.2.2.2.2.2 ∧ ¬ Fp X q.2.2.2.2.2.2 ∧ (q.2.2.2.2.1 = true → (q.2.2.2.2.2.1.kind = 3 → q.2.2.2.2.2.1.text ≠ []) ∧ q.2.2.2.2.2.1.text.length ≤ s.length),
  fun q => q.2.1,([],2 * s.length + 2,a,op,ok,t,Y.heap.size),⟨.cons rfl (.cons rfl (.cons rfl (.cons rfl .nil))),rfl⟩,⟨I2,?_,?_,?_,ha,hY.below hbZ,fZ,gY.size,?_,?_⟩,?_⟩
 ·intro h1
  exact toks_step (hok h1)
 ·intro h1
  exact toks_stop (hno h1)
 ·intro h3
  have := (next_dec (hok h3) (Nat.zero_le _)).2.1
  have h0 : bOp false = 0 := rfl
  dsimp only
  omega
 ·intro hf
  have h9 : Y.heap.size < Y.heap.size := (hJ.lt _ _ _ I1.1 (q2 _ hf)).1
  omega
 ·intro h1
  exact (next_dec (hok h1) (Nat.zero_le _)).2.2
 clear I2 q2 fZ hbZ sZ I1 gY hY hok hno ha
 rintro ⟨pre,f,a,op,ok,t,tb⟩ X ⟨hI,h1,h2,hf,ha,hX,ft,htb,hft,hgd⟩
 dsimp only at hI h1 h2 hf ha hX ft htb hft hgd ⊢
 refine And.intro (fun hok => ?_) (fun hok => ?_)
 ·have hok : ok = true := hok
  subst hok
  have h1 := h1 rfl
  have hf := hf rfl
  obtain ⟨g1,g2⟩ := hgd rfl
  have hpre : (pre ++ [t]) <+: toksOf s := ⟨toksL s f a op,by rw [h1]; simp⟩
  refine DrawE.ord [4] [0,1,2,3,4,5] (by kernel_rfl) ?_
  refine ⟨_,rfl,cells_block (hdr ft),hlt (hdr ft),?_⟩
  refine ⟨_,rfl,cells_block (hdr ft),hlt (hdr ft),?_⟩
  refine Calls.mono (fault_c t g1 (by omega) X.drew) ?_
  rintro e U ⟨rfl,hbU⟩
  refine ⟨hbU,?_⟩
  have hXU : Below X.heap.size X U := (Below.refl _ X).drew.trans hbU
  obtain ⟨IU,qU⟩ := stepB pre X U hI hXU
  have fU := block_below hXU ft
  have hU := hX.below hXU
  have hftU : ¬ Fp U tb := fun h => hft (qU _ h)
  refine YieldR.mono (hy pre t _ U IU.1 ⟨t,by simp,rfl⟩ hpre) ?_
  rintro v V (⟨rfl,hJV,hKV⟩ | ⟨rfl,hJV⟩)
  ·refine And.intro (fun h => by cases h) (fun _ => ?_)
   have IU' := IU
   obtain ⟨_,iu2,iu3,iu4⟩ := IU'
   have hUs := hKV.size
   have hgF : ¬ Fp U g := fun h => (hJ.lt _ _ _ IU.1 h).2 rfl
   have hbV : V.heap[bx]? = _ := (hKV.same bx (hlt iu3) iu4).trans iu3
   have hV : ScV V g s a op := (hKV.same g (hlt hU) hgF).trans hU
   have fV := (hKV.same tb (hlt fU) hftU).trans fU
   have nF : ∀ k,k < U.heap.size → ¬ Fp U k → ¬ Fp V k := fun k hk h1 h2 => by
    rcases hKV.fp k h2 with h3 | h3
    ·exact h1 h3
    ·omega
   have IV : Inv (pre ++ [t]) V := ⟨hJV,by omega,hbV,nF bx (hlt iu3) iu4⟩
   refine ⟨_,rfl,cells_block fV,hlt fV,?_⟩
   refine store_new (X := V) (v := .agg (tokE.enc t).toArray) (ttOk.get 210 _ rfl) rfl rfl rfl fun R hbR fR sR => ?_
   have fR : R.heap[V.heap.size]? = some (.cells (tokE.enc t).toArray 210 (0,0)) := fR
   obtain ⟨IR,qR⟩ := stepB (pre ++ [t]) V R IV hbR
   have hnR : ¬ Fp R V.heap.size := fun h => by have := (hJ.lt _ _ _ IV.1 (qR _ h)).1; omega
   refine ⟨_,cells_at (cells_block IR.2.2.1) (i := 0) rfl,?_⟩
   refine Calls.mono (next_c (hV.below hbR) ha hs) ?_
   rintro e L ⟨t',a',op',ok',rfl,hok',hno',ha',hL,gL⟩
   obtain ⟨IL,qL⟩ := stepG (pre ++ [t]) R L IR gL
   have hVs : W.heap.size ≤ V.heap.size := IV.2.1
   have hgV : g ≠ V.heap.size := by omega
   have hbV2 : bx ≠ V.heap.size := by omega
   have fL : L.heap[V.heap.size]? = some (.cells (tokE.enc t).toArray 210 (0,0)) := (gL.block _ (hlt fR) (fun e => hgV (by simpa using e.symm))).trans fR
   refine store_box (v := .agg (tokE.enc t').toArray) (ttOk.get 210 _ rfl) fL rfl rfl rfl ?_
   obtain ⟨f',rfl⟩ : ∃ f',f = f' + 1 := ⟨f - 1,by omega⟩
   have hnL : ¬ Fp L V.heap.size := fun h => hnR (qL _ h)
   have hst : StepO W.heap.size (fun k => k = g) Fp L (L.setRow V.heap.size (Value.agg (tokE.enc t').toArray).cells) := ⟨rfl,rfl,rfl,by simp,fun k hk hf => setRow_old (fun e => by
    subst e
    rcases hf with hf | hf
    ·omega
    ·exact hnL hf)⟩
   obtain ⟨j1,j2⟩ := hJ.step _ _ _ IL.1 hst
   refine ⟨(pre ++ [t],f',a',op',ok',t',V.heap.size),⟨.cons rfl (.cons rfl (.cons rfl (.cons rfl .nil))),rfl⟩,⟨⟨j1,by simp; exact IL.2.1,(setRow_old hbV2).trans IL.2.2.1,fun h => IL.2.2.2 (j2 _ h)⟩,?_,?_,?_,ha',(setRow_old hgV).trans hL,setRow_new fL,hVs,fun h => hnL (j2 _ h),?_⟩,by show f' < f' + 1; omega⟩
   ·intro h3
    rw [h1]
    show pre ++ t :: toksL s (f' + 1) a op = (pre ++ [t]) ++ _
    rw [toks_step (hok' h3)]; simp
   ·intro h3
    rw [h1]
    show pre ++ t :: toksL s (f' + 1) a op = pre ++ [t]
    rw [toks_stop (hno' h3)]
   ·intro h3
    have := (next_dec (hok' h3) ha).2.1
    dsimp only
    omega
   ·intro h3
    exact (next_dec (hok' h3) ha).2.2
  ·refine And.intro (fun _ => ?_) (fun h => by cases h)
   exact And.intro ⟨_,rfl⟩ (.inr ⟨_,hpre,hJV⟩)
 ·have hok : ok = false := hok
  subst hok
  have h2 := h2 rfl
  exact ⟨⟨_,rfl⟩,.inl (by rw [h2]; exact hI.1)⟩
end Go.Proofs.YtkpcgpmimejimaaGreatDoor
namespace Go.Proofs.YtkpcgpmimejimaaGreatDoor
open Go.Vc Go.RowKit Go.Sei
def lexOK (s : List UInt8) : Bool := decide (s.length ≤ 16384) && (toksOf s).all (fun t => decide (faultL t = 0))
theorem toks_len {s : List UInt8} : ∀ {f a : Nat} {op : Bool},(toksL s f a op).length ≤ f
 | 0,_,_ => Nat.le_refl _
 | f + 1,a,op => by
  unfold toksL
  split
  ·exact Nat.succ_le_succ toks_len
  ·exact Nat.zero_le _
def FpX (L : Nat) (X : World) (k : Nat) : Prop := k = L ∨ k = L + 1 ∨ k = L + 2 ∨ ∃ a n cap,X.heap[L]? = some (.cells #[.slice (some a) n cap] 205 (0,0)) ∧ k = a.block
structure ResX (L : Nat) (X : World) (v : Value) (pl er : Int) : Prop where
 l : X.heap[L]? = some (.cells #[v] 205 (0,0))
 p : X.heap[L + 1]? = some (.cells #[i64 pl] 3 (0,0))
 e : X.heap[L + 2]? = some (.cells #[i64 er] 40 (0,0))
def JX (w : World) (L B : Nat) (pre : List Tok) (X : World) : Prop := Below w.heap.size w X ∧ (∀ t ∈ pre,faultL t = 0) ∧ ∃ p cap,ResX L X (.slice p pre.length cap) 0 0 ∧ OwnS tokE 210 B X p cap pre
def JxX (w : World) (L : Nat) (pre : List Tok) (X : World) : Prop := Below w.heap.size w X ∧ (∃ t ∈ pre,faultL t ≠ 0) ∧ ∃ pl er,ResX L X (.slice none 0 0) pl er ∧ er ≠ 0
theorem FpX.row {L : Nat} {X : World} {p : Option Addr} {n cap : Nat} {pl er : Int} (h : ResX L X (.slice p n cap) pl er) {k : Nat} (hf : FpX L X k) : k = L ∨ k = L + 1 ∨ k = L + 2 ∨ ∃ a,p = some a ∧ k = a.block := by
 rcases hf with hf | hf | hf | ⟨a,n',cap',h1,h2⟩
 ·exact .inl hf
 ·exact .inr (.inl hf)
 ·exact .inr (.inr (.inl hf))
 ·have := h.l
  rw [h1] at this
  simp at this
  exact .inr (.inr (.inr ⟨a,this.1.symm,h2⟩))
theorem ResX.same {L : Nat} {A B : World} {v : Value} {pl er : Int} (h : ResX L A v pl er) (hs : ∀ k,k = L ∨ k = L + 1 ∨ k = L + 2 → B.heap[k]? = A.heap[k]?) : ResX L B v pl er :=
 ⟨(hs L (.inl rfl)).trans h.l,(hs _ (.inr (.inl rfl))).trans h.p,(hs _ (.inr (.inr rfl))).trans h.e⟩
theorem JX.iter {w : World} {L B n0 g : Nat} (hw : w.heap.size ≤ L) (hL : L + 2 < g) (hg : g < n0) (hB : B = n0) : IterJO n0 (fun k => k = g) (FpX L) (JX w L B) := by
 subst hB
 refine ⟨fun pre A C ⟨hb,hf,p,cap,hr,ho⟩ hs => ?_,fun pre A k ⟨hb,hf,p,cap,hr,ho⟩ hk => ?_⟩
 ·have hr' : ResX L C (.slice p pre.length cap) 0 0 := hr.same fun k hk => hs.same k (by rcases hk with rfl | rfl | rfl; exact hlt hr.l; exact hlt hr.p; exact hlt hr.e) (.inl ⟨by omega,by omega⟩)
  have hrow : ∀ a,p = some a → C.heap[a.block]? = A.heap[a.block]? := fun a ha => by
   rcases ho.inv with ⟨rfl,_⟩ | ⟨g',cur,rfl,_,hg',_⟩
   ·cases ha
   ·cases ha
    exact hs.same _ (hlt hg') (.inr (.inr (.inr (.inr ⟨_,_,_,hr.l,rfl⟩))))
  refine ⟨⟨⟨hs.os.trans hb.os,hs.tape.trans hb.tape,hs.output.trans hb.output,Nat.le_trans hb.size hs.size,fun k hk => (hs.same k (Nat.lt_of_lt_of_le hk hb.size) (.inl ⟨by omega,by omega⟩)).trans (hb.block k hk)⟩,hf,p,cap,hr',ho.same hrow⟩,fun k hk => ?_⟩
  rcases FpX.row hr' hk with rfl | rfl | rfl | ⟨a,rfl,rfl⟩
  ·exact .inl rfl
  ·exact .inr (.inl rfl)
  ·exact .inr (.inr (.inl rfl))
  ·exact .inr (.inr (.inr ⟨_,_,_,hr.l,rfl⟩))
 ·rcases FpX.row hr hk with rfl | rfl | rfl | ⟨a,rfl,rfl⟩
  ·exact ⟨hlt hr.l,by omega⟩
  ·exact ⟨hlt hr.p,by omega⟩
  ·exact ⟨hlt hr.e,by omega⟩
  ·rcases ho.inv with ⟨h,_⟩ | ⟨g',cur,h,hB,hg',_⟩
   ·cases h
   ·cases h
    exact ⟨hlt hg',by show ¬ g' = g; omega⟩
theorem JxX.iter {w : World} {L n0 g : Nat} (hw : w.heap.size ≤ L) (hL : L + 2 < g) (hg : g < n0) : IterJO n0 (fun k => k = g) (FpX L) (JxX w L) := by
 refine ⟨fun pre A C ⟨hb,hf,pl,er,hr,he⟩ hs => ?_,fun pre A k ⟨hb,hf,pl,er,hr,he⟩ hk => ?_⟩
 ·have hr' : ResX L C (.slice none 0 0) pl er := hr.same fun k hk => hs.same k (by rcases hk with rfl | rfl | rfl; exact hlt hr.l; exact hlt hr.p; exact hlt hr.e) (.inl ⟨by omega,by omega⟩)
  refine ⟨⟨⟨hs.os.trans hb.os,hs.tape.trans hb.tape,hs.output.trans hb.output,Nat.le_trans hb.size hs.size,fun k hk => (hs.same k (Nat.lt_of_lt_of_le hk hb.size) (.inl ⟨by omega,by omega⟩)).trans (hb.block k hk)⟩,hf,pl,er,hr',he⟩,fun k hk => ?_⟩
  rcases FpX.row hr' hk with rfl | rfl | rfl | ⟨a,h,_⟩
  ·exact .inl rfl
  ·exact .inr (.inl rfl)
  ·exact .inr (.inr (.inl rfl))
  ·cases h
 ·rcases FpX.row hr hk with rfl | rfl | rfl | ⟨a,h,_⟩
  ·exact ⟨hlt hr.l,by omega⟩
  ·exact ⟨hlt hr.p,by omega⟩
  ·exact ⟨hlt hr.e,by omega⟩
  ·cases h
end Go.Proofs.YtkpcgpmimejimaaGreatDoor
namespace Go.Proofs.YtkpcgpmimejimaaGreatDoor
open Go.Vc Go.RowKit Go.Sei
abbrev nl0 : Value := .slice none 0 0
theorem Lex_c (s : List UInt8) (hs : s.length ≤ 140737488351232) (w : World) :
  Calls Tryz.prog 139 #[strV s] w fun e w' => ∃ p cap n pl er,e = .returned (.tuple #[.slice p n cap,i64 pl,i64 er]) ∧ (lexOK s = true → er = 0 ∧ n = (toksOf s).length ∧ SlR tokE w' p (toksOf s)) ∧ (lexOK s = false → er ≠ 0) ∧ Below w.heap.size w w' := by
 refine calls_of_M (S := sg 27) (sgOk _) (args := [strV s]) (.c .p (.c .p .p)) Tryz.func139 rfl rfl (Nat.le_of_ble_eq_true rfl) rfl ?_
 obtain ⟨L,hL⟩ : ∃ L,L = w.heap.size := ⟨_,rfl⟩
 have z1 : (w.alloc (.cells #[nl0] 205)).heap.size = L + 1 := by rw [World.size_alloc,hL]
 have z2 : ((w.alloc (.cells #[nl0] 205)).alloc (.cells #[i64 0] 3)).heap.size = L + 2 := by rw [World.size_alloc,z1]
 obtain ⟨W0,hW0⟩ : ∃ W0,W0 = ((w.alloc (.cells #[nl0] 205)).alloc (.cells #[i64 0] 3)).alloc (.cells #[i64 0] 40) := ⟨_,rfl⟩
 have hb0 : Below w.heap.size w W0 := by rw [hW0]; exact (((Below.refl _ _).alloc (Nat.le_refl _) _).alloc (by simp) _).alloc (by rw [z2]; omega) _
 have hs0 : W0.heap.size = L + 3 := by rw [hW0,World.size_alloc,z2]
 have r0 : ResX L W0 nl0 0 0 := by
  rw [hW0]
  refine ⟨?_,?_,?_⟩
  ·rw [hL]; exact hold _ (hold _ (hnew w _))
  ·rw [← z1]; exact hold _ (hnew _ _)
  ·rw [← z2]; exact hnew _ _
 have p1 : some (Value.pointer (some ⟨(w.alloc (.cells #[nl0] 205)).heap.size,0,none⟩)) = some (Value.pointer (some ⟨L + 1,0,none⟩)) := by rw [z1]
 have p2 : some (Value.pointer (some ⟨((w.alloc (.cells #[nl0] 205)).alloc (.cells #[i64 0] 3)).heap.size,0,none⟩)) = some (Value.pointer (some ⟨L + 2,0,none⟩)) := by rw [z2]
 have put3 : ∀ (X : World) (v0 : Value) (a0 b0 : Int),ResX L X v0 a0 b0 → ∀ (pl er : Int) (K : World → Prop),(∀ Y,ResX L Y (.slice none 0 0) pl er → Below w.heap.size X Y → X.heap.size = Y.heap.size → (∀ k,k ≠ L → k ≠ L + 1 → k ≠ L + 2 → Y.heap[k]? = X.heap[k]?) → K Y) →
   SatR ((storeVar 205 ⟨L,0,none⟩ (.slice none 0 0)).run Tryz.prog X) fun _ Y1 => SatR ((storeVar 3 ⟨L + 1,0,none⟩ (i64 pl)).run Tryz.prog Y1) fun _ Y2 => SatR ((storeVar 40 ⟨L + 2,0,none⟩ (i64 er)).run Tryz.prog Y2) fun _ Y3 => K Y3 := by
  intro X v0 a0 b0 hr pl er K k
  refine store_box (v := .slice none 0 0) (ttOk.get 205 _ rfl) hr.l rfl rfl rfl ?_
  have q1 : (X.setRow L (Value.slice none 0 0).cells).heap[L + 1]? = some (.cells #[i64 a0] 3 (0,0)) := (setRow_old (by omega)).trans hr.p
  refine store_box (v := i64 pl) (ttOk.get 3 _ rfl) q1 rfl rfl rfl ?_
  have q2 : ((X.setRow L (Value.slice none 0 0).cells).setRow (L + 1) (i64 pl).cells).heap[L + 2]? = some (.cells #[i64 b0] 40 (0,0)) := (setRow_old (by omega)).trans ((setRow_old (by omega)).trans hr.e)
  refine store_box (v := i64 er) (ttOk.get 40 _ rfl) q2 rfl rfl rfl ?_
  refine k _ ⟨?_,?_,setRow_new q2⟩ ?_ (by simp) ?_
  ·exact (setRow_old (by omega)).trans ((setRow_old (by omega)).trans (setRow_new hr.l))
  ·exact (setRow_old (by omega)).trans (setRow_new q1)
  ·exact below_setRow (below_setRow (below_setRow (Below.refl _ X) (by omega) _) (by omega) _) (by omega) _
  ·intro k h1 h2 h3
   exact (setRow_old h3).trans ((setRow_old h2).trans (setRow_old h1))
 refine ⟨Unit,fun _ => ⟨[(0,strV s),(2,.pointer (some ⟨L,0,none⟩)),(3,.pointer (some ⟨L + 1,0,none⟩)),(4,.pointer (some ⟨L + 2,0,none⟩))],[]⟩,fun _ X => W0 = X,?_,?_⟩
 ·exact ⟨(),⟨.cons rfl (.cons (by rw [hL]; rfl) (.cons p1 (.cons p2 .nil))),rfl⟩,hW0⟩
 clear hW0 p1 p2 z1 z2
 rintro _ _ rfl
 refine ⟨Unit,fun _ => ⟨[(0,strV s),(2,.pointer (some ⟨L,0,none⟩)),(3,.pointer (some ⟨L + 1,0,none⟩)),(4,.pointer (some ⟨L + 2,0,none⟩))],[]⟩,fun _ X => s.length ≤ 16384 ∧ W0 = X,?_,?_⟩
 ·refine And.intro (fun h => ?_) (fun h => ?_)
  ·have h : (16384 : Int) < (s.length : Int) := of_decide_eq_true h
   have hno : lexOK s = false := by unfold lexOK; rw [decide_eq_false (by omega)]; rfl
   refine put3 W0 _ _ _ r0 0 3 _ fun Y hY hb hsz _ => ?_
   refine ⟨_,cells_at (cells_block hY.l) (i := 0) rfl,?_⟩
   refine ⟨_,cells_at (cells_block hY.p) (i := 0) rfl,?_⟩
   refine ⟨_,cells_at (cells_block hY.e) (i := 0) rfl,?_⟩
   exact ⟨none,0,0,0,3,rfl,fun h => (by rw [hno] at h; cases h),fun _ => by decide,hb0.trans hb⟩
  ·have h : ¬ (16384 : Int) < (s.length : Int) := of_decide_eq_false h
   exact ⟨(),⟨.cons rfl (.cons rfl (.cons rfl (.cons rfl .nil))),rfl⟩,by omega,rfl⟩
 rintro _ _ ⟨hln,rfl⟩
 refine ⟨[strV s,i64 0],rfl,?_⟩
 refine ⟨[strV s,i64 0,.bool false],rfl,?_⟩
 refine store_new (X := W0) (v := .agg #[strV s,i64 0,.bool false]) (ttOk.get 231 _ rfl) rfl rfl rfl fun V hbV fV sV => ?_
 have hV : ScV V W0.heap.size s 0 false := fV
 refine Calls.mono tokens_c ?_
 rintro e W1 ⟨rfl,hW1⟩
 have sW1 : W1.heap.size = W0.heap.size + 2 := by rw [hW1,World.size_alloc,sV]
 have hb1 : Below V.heap.size V W1 := by rw [hW1]; exact (Below.refl _ _).alloc (Nat.le_refl _) _
 have hbx : W1.heap[W0.heap.size + 1]? = some (.cells #[.pointer (some ⟨W0.heap.size,0,none⟩)] 251 (0,0)) := by
  rw [hW1,← sV]; exact hnew V _
 have hg1 : ScV W1 W0.heap.size s 0 false := hV.below hb1
 have hb01 : Below W0.heap.size W0 W1 := hbV.trans (hb1.mono hbV.size)
 have hbw1 : Below w.heap.size w W1 := hb0.trans (hb01.mono hb0.size)
 have r1 : ResX L W1 nl0 0 0 := r0.same fun k hk => hb01.block k (by omega)
 have hlen : (toksOf s).length ≤ 40000 := Nat.le_trans toks_len (by omega)
 have hok1 : (∀ t ∈ toksOf s,faultL t = 0) → lexOK s = true := fun h => by
  unfold lexOK; rw [decide_eq_true hln,Bool.true_and,List.all_eq_true]
  exact fun t ht => decide_eq_true (h t ht)
 have hok2 : (∃ t ∈ toksOf s,faultL t ≠ 0) → lexOK s = false := fun ⟨t,ht,hf⟩ => by
  unfold lexOK; rw [decide_eq_true hln,Bool.true_and,List.all_eq_false]
  exact ⟨t,ht,by simpa using hf⟩
 rw [sV]
 refine rangeO (sgOk _) rfl (lb := #[.pointer (some ⟨W0.heap.size + 1,0,none⟩)]) rfl rfl (tokens1_c hg1 hbx (by omega) hs) (Nat.le_refl _) (fun k hk => ⟨by rcases hk with rfl | rfl <;> omega,rfl⟩) (fun pre vs W ⟨t,_,h⟩ => by rw [h]; rfl) (by decide)
  (FpX L) (JX w L W1.heap.size) (fun ex pre X => ex = .ret ∧ JxX w L pre X) ?_ (JX.iter (by omega) (by omega) (by omega) rfl) (fun ex => ?_) ?_ ?_ ?_ ?_
 ·intro k hk hf
  rcases FpX.row r1 hf with h | h | h | ⟨a,h,_⟩
  ·omega
  ·omega
  ·omega
  ·cases h
 ·have hJ := JxX.iter (w := w) (L := L) (n0 := W1.heap.size) (g := W0.heap.size) (by omega) (by omega) (by omega)
  exact ⟨fun pre A C ⟨h1,h2⟩ hs => ⟨⟨h1,(hJ.step _ _ _ h2 hs).1⟩,(hJ.step _ _ _ h2 hs).2⟩,fun pre A k ⟨_,h2⟩ hf => hJ.lt _ _ _ h2 hf⟩
 ·exact ⟨hbw1,fun t ht => (by cases ht),none,0,r1,.nil⟩
 ·intro yl pre x vs W hyl hpre hJ hst hfy hly
  obtain ⟨t,ht,rfl⟩ := hst
  have ht : t = x := by simpa using ht.symm
  subst ht
  have hIt := JX.iter (w := w) (L := L) (B := W1.heap.size) (n0 := W1.heap.size) (g := W0.heap.size) (by omega) (by omega) (by omega) rfl
  refine store_new (X := W) (v := .agg (tokE.enc t).toArray) (ttOk.get 210 _ rfl) rfl rfl rfl fun R hbR fR sR => ?_
  have fR : R.heap[W.heap.size]? = some (.cells (tokE.enc t).toArray 210 (0,0)) := fR
  obtain ⟨jR,qR⟩ := hIt.step pre W R hJ (Step.of_below hbR).o
  refine ⟨rfl,Keeps.of_below hbR (fun k hk => .inl (qR k hk)),jR,?_⟩
  rintro o W2 hW2 ⟨hbW,hfl,p,cap,hr,ho⟩ hF2
  have f2 : W2.heap[W.heap.size]? = some (.cells (tokE.enc t).toArray 210 (0,0)) := by rw [hW2,heap_put_old (by omega)]; exact fR
  have s2 : W2.heap.size = R.heap.size := by rw [hW2]; simp [World.putObj]
  have hLW : W1.heap.size ≤ W.heap.size := by
   have := hlt hr.l
   obtain ⟨hbW',_⟩ := hJ
   omega
  refine And.intro (fun h => ?_) (fun h => ?_)
  ·have h : faultL t ≠ 0 := by
    have h1 : (!decide (faultL t = 0)) = true := h
    simpa using h1
   have hrd : ResX L W2.drew (.slice p pre.length cap) 0 0 := ⟨hr.l,hr.p,hr.e⟩
   have hd : W2.drew.heap.size = W2.heap.size := rfl
   have fin : ∀ Y,ResX L Y (.slice none 0 0) t.pos (faultL t) → Below w.heap.size W2.drew Y → W2.drew.heap.size = Y.heap.size → (∀ k,k ≠ L → k ≠ L + 1 → k ≠ L + 2 → Y.heap[k]? = W2.drew.heap[k]?) → (Exit.ret = Exit.ret ∧ JxX w L (pre ++ [t]) Y) ∧ Keeps (FpX L) W2 Y := fun Y hY hbY hsY hoY => by
    have hbY2 : Below w.heap.size w Y := hbW.trans ((Below.refl w.heap.size W2).drew.trans hbY)
    refine ⟨⟨rfl,hbY2,⟨t,by simp,h⟩,_,_,hY,h⟩,?_⟩
    refine ⟨hbY.os,hbY.tape,hbY.output,by rw [← hsY,hd]; exact Nat.le_refl _,fun k hk hf => hoY k (fun e => hf (.inl e)) (fun e => hf (.inr (.inl e))) (fun e => hf (.inr (.inr (.inl e)))),fun k hk => ?_⟩
    rcases FpX.row hY hk with h1 | h1 | h1 | ⟨a,h1,_⟩
    ·exact .inl (.inl h1)
    ·exact .inl (.inr (.inl h1))
    ·exact .inl (.inr (.inr (.inl h1)))
    ·cases h1
   refine DrawE.treeQ [3,4,5] (.op 0 (.op 2 (.alt (.op 3 (.op 1 (.op 4 (.op 5 .nil)))) (.op 1 (.op 3 (.op 4 (.op 5 .nil))))))) (by kernel_rfl) ?_
   refine And.intro ?_ ?_
   ·refine store_box (v := .slice none 0 0) (ttOk.get 205 _ rfl) hrd.l rfl rfl rfl ?_
    have q0 : (W2.drew.setRow L (Value.slice none 0 0).cells).heap[W.heap.size]? = some (.cells (tokE.enc t).toArray 210 (0,0)) := (setRow_old (by omega)).trans (hdr f2)
    refine ⟨_,cells_at (cells_block q0) (i := 2) rfl,?_⟩
    have q1 : (W2.drew.setRow L (Value.slice none 0 0).cells).heap[L + 1]? = some (.cells #[i64 0] 3 (0,0)) := (setRow_old (by omega)).trans hrd.p
    refine store_box (v := i64 t.pos) (ttOk.get 3 _ rfl) q1 rfl rfl rfl ?_
    have q2 : ((W2.drew.setRow L (Value.slice none 0 0).cells).setRow (L + 1) (i64 t.pos).cells).heap[L + 2]? = some (.cells #[i64 0] 40 (0,0)) := (setRow_old (by omega)).trans ((setRow_old (by omega)).trans hrd.e)
    refine store_box (v := i64 (faultL t)) (ttOk.get 40 _ rfl) q2 rfl rfl rfl ?_
    refine fin _ ⟨?_,?_,setRow_new q2⟩ ?_ (by simp) ?_
    ·exact (setRow_old (by omega)).trans ((setRow_old (by omega)).trans (setRow_new hrd.l))
    ·exact (setRow_old (by omega)).trans (setRow_new q1)
    ·exact below_setRow (below_setRow (below_setRow (Below.refl _ W2.drew) (by omega) _) (by omega) _) (by omega) _
    ·intro k h1 h2 h3
     exact (setRow_old h3).trans ((setRow_old h2).trans (setRow_old h1))
   ·refine ⟨_,cells_at (cells_block (hdr f2)) (i := 2) rfl,?_⟩
    exact put3 W2.drew _ _ _ hrd t.pos (faultL t) _ fin
  ·have h : faultL t = 0 := by
    have h1 : (!decide (faultL t = 0)) = false := h
    simpa using h1
   refine ⟨_,cells_at (cells_block hr.l) (i := 0) rfl,?_⟩
   refine ⟨_,rfl,cells_block f2,hlt f2,?_⟩
   refine ⟨⟨by decide,by decide,rfl⟩,tokE.enc t,fill_one (tokE.len t) rfl,?_⟩
   have hpl : pre.length + 1 ≤ 40000 := by
    have := hpre.length_le
    simp at this
    omega
   refine app_own (E := tokE) (news := [t]) (B := W1.heap.size) Tryz.underlying205 (ttOk.get 210 _ rfl) rfl rfl rfl (ho.alloc _) rfl (one_new tokE t) (by simp; omega) (by show pre.length + 1 ≤ _; omega) (by show (pre.length + 1) * 32 ≤ _; omega) ?_
   intro p3 cap3 W4 ho4 hg4 hb4 hat
   have hL2 : L < W2.heap.size := hlt hr.l
   have hr3 : ResX L (W2.alloc (.cells (tokE.enc t).toArray 210)) (.slice p pre.length cap) 0 0 := ⟨hold _ hr.l,hold _ hr.p,hold _ hr.e⟩
   have hr4 : ResX L W4 (.slice p pre.length cap) 0 0 := hr3.same fun k hk => hb4.block k (by omega)
   refine store_box (v := .slice p3 (pre ++ [t]).length cap3) (ttOk.get 205 _ rfl) hr4.l rfl rfl rfl ?_
   have hr5 : ResX L (W4.setRow L (Value.slice p3 (pre ++ [t]).length cap3).cells) (.slice p3 (pre ++ [t]).length cap3) 0 0 := ⟨setRow_new hr4.l,(setRow_old (by omega)).trans hr4.p,(setRow_old (by omega)).trans hr4.e⟩
   have hbB : Below w.heap.size W2 (W4.setRow L (Value.slice p3 (pre ++ [t]).length cap3).cells) :=
    below_setRow (((Below.refl _ W2).alloc (by omega) _).trans (hb4.mono (by omega))) (by omega) _
   refine And.intro ⟨hbW.trans hbB,fun u hu => ?_,p3,cap3,hr5,ho4.same fun a ha => ?_⟩ ⟨hbB.os,hbB.tape,hbB.output,hbB.size,fun k hk hf => ?_,fun k hk => ?_⟩
   ·rcases List.mem_append.1 hu with hu | hu
    ·exact hfl u hu
    ·simp only [List.mem_singleton] at hu
     rw [hu]; exact h
   ·refine setRow_old ?_
    rcases ho4.inv with ⟨h1,_⟩ | ⟨g',_,h1,h2,_⟩
    ·rw [h1] at ha; cases ha
    ·rw [h1] at ha; cases ha; dsimp only; omega
   ·have h1 : k ≠ L := fun e => hf (.inl e)
    rw [setRow_old h1]
    refine (hg4.block k (by simp; omega) ?_).trans ?_
    ·intro e
     cases p with
     | none => simp [Value.ownBlock] at e
     | some a =>
      simp only [Value.ownBlock,Option.some.injEq] at e
      exact hf (.inr (.inr (.inr ⟨a,_,_,hr.l,e⟩)))
    ·show (W2.heap.push _)[k]? = _
     rw [Array.getElem?_push,if_neg (Nat.ne_of_lt hk)]
   ·rcases FpX.row hr5 hk with h1 | h1 | h1 | ⟨a,ha,rfl⟩
    ·exact .inl (.inl h1)
    ·exact .inl (.inr (.inl h1))
    ·exact .inl (.inr (.inr (.inl h1)))
    ·rcases hat a ha with h1 | h1
     ·exact .inl (.inr (.inr (.inr ⟨a,_,_,h1 ▸ hr.l,rfl⟩)))
     ·refine .inr ?_
      rw [h1]; simp
 ·intro D W hD hfD hJ hdef
  obtain ⟨hbW,hfl,p,cap,hr,ho⟩ := hJ
  refine ⟨_,cells_at (cells_block hr.l) (i := 0) rfl,?_⟩
  refine store_box (v := .slice p (toksOf s).length cap) (ttOk.get 205 _ rfl) hr.l rfl rfl rfl ?_
  have q1 : (W.setRow L (Value.slice p (toksOf s).length cap).cells).heap[L + 1]? = some (.cells #[i64 0] 3 (0,0)) := (setRow_old (by omega)).trans hr.p
  refine store_box (v := i64 0) (ttOk.get 3 _ rfl) q1 rfl rfl rfl ?_
  have q2 : ((W.setRow L (Value.slice p (toksOf s).length cap).cells).setRow (L + 1) (i64 0).cells).heap[L + 2]? = some (.cells #[i64 0] 40 (0,0)) := (setRow_old (by omega)).trans ((setRow_old (by omega)).trans hr.e)
  refine store_box (v := i64 0) (ttOk.get 40 _ rfl) q2 rfl rfl rfl ?_
  obtain ⟨S,hS⟩ : ∃ S,S = ((W.setRow L (Value.slice p (toksOf s).length cap).cells).setRow (L + 1) (i64 0).cells).setRow (L + 2) (i64 0).cells := ⟨_,rfl⟩
  have rS : ResX L S (.slice p (toksOf s).length cap) 0 0 := by
   rw [hS]
   exact ⟨(setRow_old (by omega)).trans ((setRow_old (by omega)).trans (setRow_new hr.l)),(setRow_old (by omega)).trans (setRow_new q1),setRow_new q2⟩
  have bS : Below w.heap.size W S := by rw [hS]; exact below_setRow (below_setRow (below_setRow (Below.refl _ W) (by omega) _) (by omega) _) (by omega) _
  have oS : ∀ k,k ≠ L → k ≠ L + 1 → k ≠ L + 2 → S.heap[k]? = W.heap[k]? := fun k h1 h2 h3 => by rw [hS]; exact (setRow_old h3).trans ((setRow_old h2).trans (setRow_old h1))
  have dS : S.heap[D]? = some (.deferred (some [])) := (oS D (by omega) (by omega) (by omega)).trans hdef
  rw [← hS]
  refine ⟨_,rfl,dS,?_⟩
  have rP : ResX L (S.putObj D (.deferred none)) (.slice p (toksOf s).length cap) 0 0 := rS.same fun k hk => heap_put_old (by omega)
  refine ⟨_,cells_at (cells_block rP.l) (i := 0) rfl,?_⟩
  refine ⟨_,cells_at (cells_block rP.p) (i := 0) rfl,?_⟩
  refine ⟨_,cells_at (cells_block rP.e) (i := 0) rfl,?_⟩
  refine ⟨p,cap,(toksOf s).length,0,0,rfl,fun _ => ⟨rfl,rfl,?_⟩,fun h => ?_,below_put (hbW.trans bS) (by omega) _⟩
  ·exact (ho.same fun a ha => by
    have hne : a.block ≠ L ∧ a.block ≠ L + 1 ∧ a.block ≠ L + 2 ∧ a.block ≠ D := by
     rcases ho.inv with ⟨h1,_⟩ | ⟨g',_,h1,h2,h3,_⟩
     ·rw [h1] at ha; cases ha
     ·rw [h1] at ha; cases ha
      refine ⟨by dsimp only; omega,by dsimp only; omega,by dsimp only; omega,fun e => ?_⟩
      have e : g' = D := e
      rw [e,hdef] at h3; cases h3
    exact (heap_put_old hne.2.2.2).trans (oS _ hne.1 hne.2.1 hne.2.2.1)).row
  ·rw [hok1 hfl] at h; cases h
 ·rintro D ex pre W hD hfD hpre ⟨rfl,hbW,⟨t,ht,hft⟩,pl,er,hr,her⟩ hdef
  refine ⟨_,rfl,hdef,?_⟩
  have rP : ResX L (W.putObj D (.deferred none)) (.slice none 0 0) pl er := hr.same fun k hk => heap_put_old (by omega)
  refine ⟨_,cells_at (cells_block rP.l) (i := 0) rfl,?_⟩
  refine ⟨_,cells_at (cells_block rP.p) (i := 0) rfl,?_⟩
  refine ⟨_,cells_at (cells_block rP.e) (i := 0) rfl,?_⟩
  refine ⟨none,0,0,pl,er,rfl,fun h => ?_,fun _ => her,below_put hbW (by omega) _⟩
  rw [hok2 ⟨t,hpre.subset ht,hft⟩] at h; cases h
theorem isWord_c (s : List UInt8) (hs : s.length ≤ 140737488351232) (w : World) : Calls Tryz.prog 115 #[strV s] w fun e w' => e = .returned (.bool (isWordL s)) ∧ Below w.heap.size w w' := by
 refine calls_of_E (S := sg 34) (sgOk _) (args := [strV s]) Tryz.func115 rfl rfl (Nat.le_of_ble_eq_true rfl) rfl ?_
 have hdef : isWordL s = (lexOK s && twoB (toksOf s) s) := by
  unfold isWordL lexOK; rw [Bool.and_assoc]
 refine Calls.mono (Lex_c s hs w) ?_
 rintro e V ⟨p,cap,n,pl,er,rfl,h1,h2,hb⟩
 cases hk : lexOK s with
 | false =>
  have her := h2 hk
  rw [hdef,hk,Bool.false_and]
  refine brN (by exact decide_eq_false her) ?_
  refine brF ?_
  refine brF ?_
  exact ⟨rfl,hb⟩
 | true =>
  obtain ⟨rfl,rfl,hr⟩ := h1 hk
  rw [hdef,hk,Bool.true_and]
  refine brT ?_
  refine And.intro (fun h => ?_) (fun h => ?_)
  ·have h : (toksOf s).length = 2 := by have h : ((toksOf s).length : Int) = 2 := of_decide_eq_true h; omega
   match hx : toksOf s,h with
   | [t,u],_ =>
    rw [hx] at hr
    obtain ⟨b,o,rfl,hbb,hc⟩ := hr.at (i := 0) (by simp)
    have hc := hc 0 (by simp)
    refine ⟨0,rfl,(by show 0 < 2; omega),?_⟩
    refine ⟨_,cells_at hc (i := 0) rfl,?_⟩
    have kd : decide ((t.kind.toNat : Int) = 1) = decide (t.kind = 1) := by rw [decide_eq_decide]; exact u8_eq (y := 1)
    refine And.intro (fun h => ?_) (fun h => ?_)
    ·have h : decide (t.kind = 1) = true := kd.symm.trans h
     refine ⟨0,rfl,(by show 0 < 2; omega),?_⟩
     refine ⟨_,cells_at hc (i := 1) rfl,?_⟩
     refine ⟨_,fun w => eql_str _ _ t.text s w,?_⟩
     exact ⟨rb (by unfold twoB; simp only [h,Bool.true_and]),hb⟩
    ·have h : decide (t.kind = 1) = false := kd.symm.trans h
     exact ⟨rb (by unfold twoB; simp only [h,Bool.false_and]),hb⟩
  ·have h : ¬ (toksOf s).length = 2 := by have h : ¬ ((toksOf s).length : Int) = 2 := of_decide_eq_false h; omega
   refine brF ?_
   refine ⟨rb ?_,hb⟩
   have gen : ∀ l : List Tok,¬ l.length = 2 → false = twoB l s := fun l hl => by
    match l,hl with
    | [],_ => rfl
    | [_],_ => rfl
    | [_,_],hl => exact absurd rfl hl
    | _ :: _ :: _ :: _,_ => rfl
   exact gen _ h
end Go.Proofs.YtkpcgpmimejimaaGreatDoor
namespace Go.Proofs.YtkpcgpmimejimaaGreatDoor
open Go.Vc Go.RowKit Go.Sei
theorem Kept_c (s : List UInt8) (w : World) : Calls Tryz.prog 157 #[strV s] w fun e w' => e = .returned (.bool (keptL s)) ∧ w = w' := by
 refine calls_of_E (S := sg 22) (sgOk _) (args := [strV s]) Tryz.func157 rfl rfl (Nat.le_of_ble_eq_true rfl) rfl ?_
 refine ⟨_,fun w => eql_str _ _ s [116,101,115,116] w,?_⟩
 refine And.intro (fun h => ?_) (fun h0 => ?_)
 ·refine brE h ?_
  exact ⟨rb (List.any_eq_true.2 ⟨[116,101,115,116],by decide,h⟩).symm,rfl⟩
 refine ⟨_,fun w => eql_str _ _ s [105,110,105,116] w,?_⟩
 refine And.intro (fun h => ?_) (fun h1 => ?_)
 ·refine brE h ?_
  exact ⟨rb (List.any_eq_true.2 ⟨[105,110,105,116],by decide,h⟩).symm,rfl⟩
 refine ⟨_,fun w => eql_str _ _ s [116,104,114,101,97,100] w,?_⟩
 refine And.intro (fun h => ?_) (fun h2 => ?_)
 ·refine brE h ?_
  exact ⟨rb (List.any_eq_true.2 ⟨[116,104,114,101,97,100],by decide,h⟩).symm,rfl⟩
 refine ⟨_,fun w => eql_str _ _ s [115,111,109,101] w,?_⟩
 refine And.intro (fun h => ?_) (fun h3 => ?_)
 ·refine brE h ?_
  exact ⟨rb (List.any_eq_true.2 ⟨[115,111,109,101],by decide,h⟩).symm,rfl⟩
 refine ⟨_,fun w => eql_str _ _ s [110,111,110,101] w,?_⟩
 refine And.intro (fun h => ?_) (fun h4 => ?_)
 ·refine brE h ?_
  exact ⟨rb (List.any_eq_true.2 ⟨[110,111,110,101],by decide,h⟩).symm,rfl⟩
 refine ⟨_,fun w => eql_str _ _ s [97,108,108] w,?_⟩
 refine And.intro (fun h => ?_) (fun h5 => ?_)
 ·refine brE h ?_
  exact ⟨rb (List.any_eq_true.2 ⟨[97,108,108],by decide,h⟩).symm,rfl⟩
 refine ⟨_,fun w => eql_str _ _ s [97,99,113] w,?_⟩
 refine And.intro (fun h => ?_) (fun h6 => ?_)
 ·refine brE h ?_
  exact ⟨rb (List.any_eq_true.2 ⟨[97,99,113],by decide,h⟩).symm,rfl⟩
 refine ⟨_,fun w => eql_str _ _ s [114,101,108] w,?_⟩
 refine And.intro (fun h => ?_) (fun h7 => ?_)
 ·refine brE h ?_
  exact ⟨rb (List.any_eq_true.2 ⟨[114,101,108],by decide,h⟩).symm,rfl⟩
 refine ⟨_,fun w => eql_str _ _ s [115,119,97,112] w,?_⟩
 refine And.intro (fun h => ?_) (fun h8 => ?_)
 ·refine brE h ?_
  exact ⟨rb (List.any_eq_true.2 ⟨[115,119,97,112],by decide,h⟩).symm,rfl⟩
 refine ⟨_,fun w => eql_str _ _ s [102,101,116,99,104] w,?_⟩
 refine And.intro (fun h => ?_) (fun h9 => ?_)
 ·refine brE h ?_
  exact ⟨rb (List.any_eq_true.2 ⟨[102,101,116,99,104],by decide,h⟩).symm,rfl⟩
 refine ⟨_,fun w => eql_str _ _ s [99,97,115] w,?_⟩
 refine And.intro (fun h => ?_) (fun h10 => ?_)
 ·refine brE h ?_
  exact ⟨rb (List.any_eq_true.2 ⟨[99,97,115],by decide,h⟩).symm,rfl⟩
 refine ⟨_,fun w => eql_str _ _ s [102,101,110,99,101] w,?_⟩
 refine And.intro (fun h => ?_) (fun h11 => ?_)
 ·refine brE h ?_
  exact ⟨rb (List.any_eq_true.2 ⟨[102,101,110,99,101],by decide,h⟩).symm,rfl⟩
 refine ⟨_,fun w => eql_str _ _ s [108,111,97,100,115] w,?_⟩
 refine And.intro (fun h => ?_) (fun h12 => ?_)
 ·refine brE h ?_
  exact ⟨rb (List.any_eq_true.2 ⟨[108,111,97,100,115],by decide,h⟩).symm,rfl⟩
 refine ⟨_,fun w => eql_str _ _ s [115,116,111,114,101,115] w,?_⟩
 refine And.intro (fun h => ?_) (fun h13 => ?_)
 ·refine brE h ?_
  exact ⟨rb (List.any_eq_true.2 ⟨[115,116,111,114,101,115],by decide,h⟩).symm,rfl⟩
 refine ⟨_,fun w => eql_str _ _ s [115,107,105,112] w,?_⟩
 refine And.intro (fun h => ?_) (fun h14 => ?_)
 ·refine brE h ?_
  exact ⟨rb (List.any_eq_true.2 ⟨[115,107,105,112],by decide,h⟩).symm,rfl⟩
 refine ⟨_,fun w => eql_str _ _ s [105,102] w,?_⟩
 refine And.intro (fun h => ?_) (fun h15 => ?_)
 ·refine brE h ?_
  exact ⟨rb (List.any_eq_true.2 ⟨[105,102],by decide,h⟩).symm,rfl⟩
 refine ⟨_,fun w => eql_str _ _ s [116,114,117,101] w,?_⟩
 refine And.intro (fun h => ?_) (fun h16 => ?_)
 ·exact ⟨rb (List.any_eq_true.2 ⟨[116,114,117,101],by decide,h⟩).symm,rfl⟩
 exact ⟨rb (by unfold keptL keptW; simp only [List.any_cons,List.any_nil,h0,h1,h2,h3,h4,h5,h6,h7,h8,h9,h10,h11,h12,h13,h14,h15,h16]; rfl),rfl⟩
theorem Name_c (s : List UInt8) (hs : s.length ≤ 140737488351232) (w : World) : Calls Tryz.prog 140 #[strV s] w fun e w' => e = .returned (.bool (nameL s)) ∧ w = w' := by
 refine calls_of_M (S := sg 55) (sgOk _) (args := [strV s]) (.s .p (.c .p (.s .p (.c .p .p)))) Tryz.func140 rfl rfl (Nat.le_of_ble_eq_true rfl) rfl ?_
 refine ⟨Unit,fun _ => ⟨[(0,strV s)],[]⟩,fun _ X => (∃ c r,s = c :: r ∧ r.length + 1 ≤ 16 ∧ clsL c = 3 ∧ keptL s = false) ∧ w = X,?_,?_⟩
 ·refine And.intro (fun h => ?_) (fun h => ?_)
  ·have h : (s.length : Int) < 1 := of_decide_eq_true h
   have h0 : s = [] := List.eq_nil_of_length_eq_zero (by omega)
   subst h0
   refine brT ?_
   refine brT ?_
   refine brT ?_
   exact ⟨rfl,rfl⟩
  have h : ¬ (s.length : Int) < 1 := of_decide_eq_false h
  obtain ⟨c,r,rfl⟩ : ∃ c r,s = c :: r := by
   cases s with
   | nil => simp at h
   | cons c r => exact ⟨c,r,rfl⟩
  have hdef : nameL (c :: r) = (decide (r.length + 1 ≤ 16) && (decide (clsL c = 3) && (!keptL (c :: r) && (r.all inWordL && (!decide (c = 114) || (decide (digitsL r = 0) || decide (digitsL r < r.length))))))) := rfl
  have hsz : (((bs (c :: r)).size : Nat) : Int) = (r.length + 1 : Nat) := rfl
  refine And.intro (fun h2 => ?_) (fun h2 => ?_)
  ·have h2 : (16 : Int) < ((r.length + 1 : Nat) : Int) := of_decide_eq_true h2
   refine brT ?_
   refine brT ?_
   exact ⟨rb (by rw [hdef,decide_eq_false (by omega)]; rfl),rfl⟩
  have h2 : ¬ (16 : Int) < ((r.length + 1 : Nat) : Int) := of_decide_eq_false h2
  refine ⟨0,rfl,Nat.succ_pos _,c,rfl,?_⟩
  refine Calls.mono (classOf_c c _) ?_
  rintro e _ ⟨rfl,rfl⟩
  refine And.intro (fun h3 => ?_) (fun h3 => ?_)
  ·have h3 : ¬ clsL c = 3 := by
    have h1 : (!decide ((clsL c : Int) = 3)) = true := h3
    simp at h1; omega
   refine brT ?_
   exact ⟨rb (by rw [hdef,decide_eq_false h3]; simp),rfl⟩
  have h3 : clsL c = 3 := by
   have h1 : (!decide ((clsL c : Int) = 3)) = false := h3
   simp at h1; omega
  refine Calls.mono (Kept_c (c :: r) _) ?_
  rintro e _ ⟨rfl,rfl⟩
  refine And.intro (fun h4 => ?_) (fun h4 => ?_)
  ·have h4 : keptL (c :: r) = true := h4
   exact ⟨rb (by rw [hdef,h4]; simp),rfl⟩
  ·exact ⟨(),⟨.cons rfl .nil,rfl⟩,⟨c,r,rfl,by omega,h3,h4⟩,rfl⟩
 rintro _ _ ⟨⟨c,r,rfl,h1,h3,h4⟩,rfl⟩
 have hdef : nameL (c :: r) = (r.all inWordL && (!decide (c = 114) || (decide (digitsL r = 0) || decide (digitsL r < r.length)))) := by
  show (decide (r.length + 1 ≤ 16) && (decide (clsL c = 3) && (!keptL (c :: r) && (r.all inWordL && (!decide (c = 114) || (decide (digitsL r = 0) || decide (digitsL r < r.length))))))) = _
  rw [decide_eq_true h1,decide_eq_true h3,h4]; rfl
 rw [hdef]
 refine ⟨Unit,fun _ => ⟨[(0,strV (c :: r)),(3,i64 (digitsL r : Nat))],[]⟩,fun _ X => r.all inWordL = true ∧ w = X,?_,?_⟩
 ·refine ⟨Nat,fun k => ⟨[(0,strV (c :: r)),(3,i64 (digitsL (r.take k) : Nat)),(4,i64 (k + 1 : Nat))],[]⟩,fun k X => k ≤ r.length ∧ (∀ d ∈ r.take k,inWordL d = true) ∧ digitsL (r.take k) ≤ k ∧ w = X,fun k => r.length - k,0,⟨.cons rfl (.cons rfl (.cons rfl .nil)),rfl⟩,⟨Nat.zero_le _,by simp,Nat.le_refl _,rfl⟩,?_⟩
  rintro k _ ⟨hk,hw,hdk,rfl⟩
  dsimp only at hk hw hdk ⊢
  refine And.intro (fun hc => ?_) (fun hc => ?_)
  ·have hc : ((k + 1 : Nat) : Int) < ((r.length + 1 : Nat) : Int) := of_decide_eq_true hc
   have hl : k < r.length := by omega
   have hat : (bs (c :: r)).data.toList[k + 1]? = some r[k] := by
    show (c :: r)[k + 1]? = _
    rw [List.getElem?_cons_succ,List.getElem?_eq_getElem hl]
   refine ⟨k + 1,rfl,(by show k + 1 < r.length + 1; omega),r[k],hat,?_⟩
   refine Calls.mono (inWord_c _ _) ?_
   rintro e _ ⟨rfl,rfl⟩
   refine And.intro (fun hi => ?_) (fun hi => ?_)
   ·have hi : (!inWordL r[k]) = true := hi
    have hi : inWordL r[k] = false := by simpa using hi
    have : r.all inWordL = false := by
     rw [List.all_eq_false]
     exact ⟨r[k],List.getElem_mem _,by rw [hi]; simp⟩
    exact ⟨rb (by rw [this]; rfl),rfl⟩
   have hi : (!inWordL r[k]) = false := hi
   have hi : inWordL r[k] = true := by simpa using hi
   have hw' : ∀ d ∈ r.take (k + 1),inWordL d = true := by
    rw [List.take_succ_eq_append_getElem hl]
    intro d hd
    rcases List.mem_append.1 hd with hd | hd
    ·exact hw d hd
    ·simp only [List.mem_singleton] at hd
     rw [hd]; exact hi
   have hds : digitsL (r.take (k + 1)) = digitsL (r.take k) + (if digB r[k] = true then 1 else 0) := by
    unfold digitsL
    rw [List.take_succ_eq_append_getElem hl,List.filter_append,List.length_append]
    congr 1
    by_cases h : digB r[k] = true
    ·rw [if_pos h,List.filter_cons_of_pos h]; rfl
    ·rw [if_neg h,List.filter_cons_of_neg h]; rfl
   refine ⟨k + 1,rfl,(by show k + 1 < r.length + 1; omega),r[k],hat,?_⟩
   refine Calls.mono (classOf_c _ _) ?_
   rintro e _ ⟨rfl,rfl⟩
   have hd : decide ((clsL r[k] : Int) = 4) = digB r[k] := nat_dec (b := 4)
   refine And.intro (fun hg => ?_) (fun hg => ?_)
   ·have hg : digB r[k] = true := hd.symm.trans hg
    rw [if_pos hg] at hds
    refine ⟨(digitsL (r.take (k + 1)) : Int),(wrap_i64 (by omega)).trans (by omega),?_⟩
    refine ⟨((k + 1 + 1 : Nat) : Int),(wrap_i64 (by omega)).trans (by omega),?_⟩
    exact ⟨k + 1,⟨.cons rfl (.cons rfl (.cons rfl .nil)),rfl⟩,⟨hl,hw',by omega,rfl⟩,by show r.length - (k + 1) < r.length - k; omega⟩
   ·have hg : ¬ digB r[k] = true := by rw [Bool.not_eq_true]; exact hd.symm.trans hg
    rw [if_neg hg] at hds
    refine ⟨((k + 1 + 1 : Nat) : Int),(wrap_i64 (by omega)).trans (by omega),?_⟩
    exact ⟨k + 1,⟨.cons rfl (.cons (by rw [hds]; rfl) (.cons rfl .nil)),rfl⟩,⟨hl,hw',by omega,rfl⟩,by show r.length - (k + 1) < r.length - k; omega⟩
  ·have hc : ¬ ((k + 1 : Nat) : Int) < ((r.length + 1 : Nat) : Int) := of_decide_eq_false hc
   obtain rfl : k = r.length := by omega
   rw [List.take_length] at hw
   exact ⟨(),⟨.cons rfl (.cons (by rw [List.take_length]; rfl) .nil),rfl⟩,List.all_eq_true.2 hw,rfl⟩
 rintro _ _ ⟨hall,rfl⟩
 rw [hall,Bool.true_and]
 have hdl : digitsL r ≤ r.length := List.length_filter_le _ _
 refine ⟨0,rfl,Nat.succ_pos _,c,rfl,?_⟩
 have cd : decide ((c.toNat : Int) = 114) = decide (c = 114) := by rw [decide_eq_decide]; exact u8_eq (y := 114)
 refine And.intro (fun h => ?_) (fun h => ?_)
 ·have h : (!decide (c = 114)) = true := by
   have h : (!decide ((c.toNat : Int) = 114)) = true := h
   rwa [cd] at h
  refine brT ?_
  exact ⟨rb (by rw [h]; rfl),rfl⟩
 have h : (!decide (c = 114)) = false := by
  have h : (!decide ((c.toNat : Int) = 114)) = false := h
  rwa [cd] at h
 rw [h,Bool.false_or]
 refine And.intro (fun h5 => ?_) (fun h5 => ?_)
 ·have h5 : digitsL r = 0 := by have h5 : (digitsL r : Int) = 0 := of_decide_eq_true h5; omega
  exact ⟨rb (by rw [decide_eq_true h5]; rfl),rfl⟩
 have h5 : ¬ digitsL r = 0 := by have h5 : ¬ (digitsL r : Int) = 0 := of_decide_eq_false h5; omega
 refine ⟨(r.length : Nat),(wrap_i64 (by show -9223372036854775808 ≤ ((r.length + 1 : Nat) : Int) - 1 ∧ ((r.length + 1 : Nat) : Int) - 1 ≤ 9223372036854775807; omega)).trans (by show ((r.length + 1 : Nat) : Int) - 1 = _; omega),?_⟩
 exact ⟨rb (by rw [decide_eq_false h5,Bool.false_or,decide_eq_decide]; omega),rfl⟩
theorem Index_c (p : Option Addr) (cap : Nat) (l : List (List UInt8)) (s : List UInt8) (w : World) (hl : SlR namE w p l) (hn : l.length ≤ 140737488351232) :
  Calls Tryz.prog 159 #[.slice p l.length cap,strV s] w fun e w' => ∃ n : Int,e = .returned (i64 n) ∧ decide (0 ≤ n) = l.any (fun q => decide (q = s)) ∧ w = w' := by
 refine calls_of_E (S := sg 19) (sgOk _) (args := [.slice p l.length cap,strV s]) Tryz.func159 rfl rfl (Nat.le_of_ble_eq_true rfl) rfl ?_
 refine ⟨Nat,fun k => ⟨[(0,.slice p l.length cap),(1,strV s),(7,i64 l.length),(8,i64 (k : Nat))],[]⟩,fun k X => k ≤ l.length ∧ (∀ q ∈ l.take k,¬ q = s) ∧ w = X,fun k => l.length - k,0,⟨.cons rfl (.cons rfl (.cons rfl (.cons rfl .nil))),rfl⟩,⟨Nat.zero_le _,by simp,rfl⟩,?_⟩
 rintro k _ ⟨hk,hno,rfl⟩
 dsimp only at hk hno ⊢
 refine And.intro (fun hc => ?_) (fun hc => ?_)
 ·have hc : (k : Int) < (l.length : Int) := of_decide_eq_true hc
  have hkl : k < l.length := by omega
  obtain ⟨b,o,rfl,hb,hat⟩ := hl.at hkl
  refine ⟨k,rfl,hkl,?_⟩
  refine ⟨_,cells_at (hat k hkl) (i := 0) rfl,?_⟩
  refine ⟨_,fun w => eql_str _ _ s l[k] w,?_⟩
  refine And.intro (fun h => ?_) (fun h => ?_)
  ·have h : s = l[k] := of_decide_eq_true h
   refine ⟨k,rfl,?_,rfl⟩
   rw [decide_eq_true (by omega)]
   symm
   rw [List.any_eq_true]
   exact ⟨l[k],List.getElem_mem _,decide_eq_true h.symm⟩
  ·have h : ¬ s = l[k] := of_decide_eq_false h
   refine ⟨(k + 1 : Nat),(wrap_i64 (by omega)).trans (by omega),?_⟩
   refine ⟨k + 1,⟨.cons rfl (.cons rfl (.cons rfl (.cons rfl .nil))),rfl⟩,⟨hkl,?_,rfl⟩,by show l.length - (k + 1) < l.length - k; omega⟩
   rw [List.take_succ_eq_append_getElem hkl]
   intro q hq
   rcases List.mem_append.1 hq with hq | hq
   ·exact hno q hq
   ·simp only [List.mem_singleton] at hq
    rw [hq]; exact fun e => h e.symm
 ·have hc : ¬ (k : Int) < (l.length : Int) := of_decide_eq_false hc
  obtain rfl : k = l.length := by omega
  rw [List.take_length] at hno
  refine ⟨-1,rfl,?_,rfl⟩
  symm
  show _ = false
  rw [List.any_eq_false]
  exact fun q hq => by simpa using hno q hq
theorem Contains_c (p : Option Addr) (cap : Nat) (l : List (List UInt8)) (s : List UInt8) (w : World) (hl : SlR namE w p l) (hn : l.length ≤ 140737488351232) :
  Calls Tryz.prog 141 #[.slice p l.length cap,strV s] w fun e w' => e = .returned (.bool (l.any fun q => decide (q = s))) ∧ w = w' := by
 refine calls_of_E (S := sg 9) (sgOk _) (args := [.slice p l.length cap,strV s]) Tryz.func141 rfl rfl (Nat.le_of_ble_eq_true rfl) rfl ?_
 refine Calls.mono (Index_c p cap l s w hl hn) ?_
 rintro e _ ⟨n,rfl,h,rfl⟩
 exact ⟨rb h,rfl⟩
end Go.Proofs.YtkpcgpmimejimaaGreatDoor
namespace Go.Proofs.YtkpcgpmimejimaaGreatDoor
open Go.Vc Go.RowKit Go.Sei
def GlobC (w : World) : Prop := Cells w ⟨1,0,none⟩ (needL.map u8)
theorem GlobC.below {w w2 : World} (h : GlobC w) (hb : Below w.heap.size w w2) : GlobC w2 := cells_below hb h
def spC (x : InsD) (locs after : Nat) : List Value := [u8 x.op,u8 x.dst,u8 x.loc,.bool x.ar,u8 x.an,.bool x.br,u8 x.bn,u8 x.fn,u8 x.mode,u8 x.skip,i64 locs,i64 after]
theorem u8d (x k : UInt8) : decide ((x.toNat : Int) = (k.toNat : Int)) = decide (x = k) := by rw [decide_eq_decide]; exact u8_eq
theorem u8_and (a b : UInt8) : IntKind.u8.wrap ((BitVec.ofInt IntKind.u8.bits (a.toNat : Int) &&& BitVec.ofInt IntKind.u8.bits (b.toNat : Int)).toNat : Int) = ((a &&& b).toNat : Int) := by
  have h : ∀ x : UInt8,BitVec.ofInt 8 (x.toNat : Int) = x.toBitVec := fun x => by
    apply BitVec.eq_of_toNat_eq
    rw [BitVec.toNat_ofInt]
    have := x.toNat_lt
    show ((x.toNat : Int) % (2 ^ 8 : Nat)).toNat = x.toNat
    omega
  show IntKind.u8.wrap ((BitVec.ofInt 8 (a.toNat : Int) &&& BitVec.ofInt 8 (b.toNat : Int)).toNat : Int) = _
  rw [h,h]
  have e : (a.toBitVec &&& b.toBitVec).toNat = (a &&& b).toNat := rfl
  rw [e]
  have := (a &&& b).toNat_lt
  exact wrap_u8 (by omega)
theorem has_c {g locs after : Nat} {x : InsD} {w : World} (bit : UInt8) (h : Cells w ⟨g,0,none⟩ (spC x locs after)) (hop : x.op.toNat ≤ 8) (hG : GlobC w) :
    Calls Tryz.prog 165 #[.pointer (some ⟨g,0,none⟩),u8 bit] w fun e w' => e = .returned (.bool (hasL x.op bit)) ∧ w = w' := by
  refine calls_of_E (S := sg 15) (sgOk _) (args := [.pointer (some ⟨g,0,none⟩),u8 bit]) Tryz.func165 rfl rfl (Nat.le_of_ble_eq_true rfl) rfl ?_
  refine ⟨_,cells_at h (i := 0) rfl,?_⟩
  refine ⟨x.op.toNat,rfl,(by show x.op.toNat < 9; omega),?_⟩
  have hn : (needL.map u8)[x.op.toNat]? = some (u8 (needL.getD x.op.toNat 0)) := by
    have hl : x.op.toNat < needL.length := by show _ < 9; omega
    rw [List.getElem?_map,List.getElem?_eq_getElem hl,List.getD_eq_getElem?_getD,List.getElem?_eq_getElem hl]; rfl
  refine ⟨u8 (needL.getD x.op.toNat 0),by rw [Nat.mul_one]; exact cells_at hG hn,?_⟩
  refine ⟨((needL.getD x.op.toNat 0 &&& bit).toNat : Int),u8_and _ _,?_⟩
  exact ⟨rb (by unfold hasL; rw [← u8d]; rfl),rfl⟩
theorem argRight_c (r : Bool) (n : UInt8) (w : World) : Calls Tryz.prog 167 #[.agg #[.bool r,u8 n]] w fun e w' => e = .returned (.bool (argL r n)) ∧ Below w.heap.size w w' := by
  refine calls_of_E (S := sg 11) (sgOk _) (args := [.agg #[.bool r,u8 n]]) Tryz.func167 rfl rfl (Nat.le_of_ble_eq_true rfl) rfl ?_
  have hb0 : Below w.heap.size w (w.alloc (.cells #[.bool r,u8 n] 67)) := (Below.refl _ _).alloc (Nat.le_refl _) _
  have c0 := cells_block (hnew w (.cells #[.bool r,u8 n] 67))
  refine ⟨_,cells_at c0 (i := 0) rfl,?_⟩
  cases r with
  | false =>
    refine brT ?_
    exact ⟨rfl,hb0⟩
  | true =>
    refine brF ?_
    refine ⟨_,cells_at c0 (i := 1) rfl,?_⟩
    refine ⟨rb ?_,hb0⟩
    show decide ((n.toNat : Int) < 8) = decide (n.toNat < 8)
    rw [decide_eq_decide]; omega
theorem modeRight_c {g locs after : Nat} {x : InsD} {w : World} (h : Cells w ⟨g,0,none⟩ (spC x locs after)) :
    Calls Tryz.prog 168 #[.pointer (some ⟨g,0,none⟩)] w fun e w' => e = .returned (.bool (modeL x)) ∧ w = w' := by
  refine calls_of_E (S := sg 64) (sgOk _) (args := [.pointer (some ⟨g,0,none⟩)]) Tryz.func168 rfl rfl (Nat.le_of_ble_eq_true rfl) rfl ?_
  refine ⟨_,cells_at h (i := 0) rfl,?_⟩
  refine And.intro (fun h1 => ?_) (fun h1 => ?_)
  · have h1 : x.op = 1 := of_decide_eq_true ((u8d x.op 1).symm.trans h1)
    have e : modeL x = (decide (x.mode = 0) || decide (x.mode = 1)) := by unfold modeL; rw [if_pos h1]
    rw [e,← u8d,← u8d]
    refine ⟨_,cells_at h (i := 8) rfl,?_⟩
    refine And.intro (fun h2 => ?_) (fun h2 => ?_)
    · exact ⟨rb (by have h2 : decide ((x.mode.toNat : Int) = ((0 : UInt8).toNat : Int)) = true := h2
                    rw [h2]; rfl),rfl⟩
    · refine ⟨_,cells_at h (i := 8) rfl,?_⟩
      exact ⟨rb (by have h2 : decide ((x.mode.toNat : Int) = ((0 : UInt8).toNat : Int)) = false := h2
                    rw [h2]; rfl),rfl⟩
  have h1 : ¬ x.op = 1 := of_decide_eq_false ((u8d x.op 1).symm.trans h1)
  refine And.intro (fun h2 => ?_) (fun h2 => ?_)
  · have h2 : x.op = 2 := of_decide_eq_true ((u8d x.op 2).symm.trans h2)
    have e : modeL x = (decide (x.mode = 0) || decide (x.mode = 2)) := by unfold modeL; rw [if_neg h1,if_pos h2]
    rw [e,← u8d,← u8d]
    refine ⟨_,cells_at h (i := 8) rfl,?_⟩
    refine And.intro (fun h2 => ?_) (fun h2 => ?_)
    · exact ⟨rb (by have h2 : decide ((x.mode.toNat : Int) = ((0 : UInt8).toNat : Int)) = true := h2
                    rw [h2]; rfl),rfl⟩
    · refine ⟨_,cells_at h (i := 8) rfl,?_⟩
      exact ⟨rb (by have h2 : decide ((x.mode.toNat : Int) = ((0 : UInt8).toNat : Int)) = false := h2
                    rw [h2]; rfl),rfl⟩
  have h2 : ¬ x.op = 2 := of_decide_eq_false ((u8d x.op 2).symm.trans h2)
  refine And.intro (fun h3 => ?_) (fun h3 => ?_)
  · have h3 : x.op = 7 := of_decide_eq_true ((u8d x.op 7).symm.trans h3)
    have e : modeL x = (decide (x.mode = 3) || (decide (x.mode = 4) || decide (x.mode = 5))) := by unfold modeL; rw [if_neg h1,if_neg h2,if_pos h3]
    rw [e,← u8d,← u8d,← u8d]
    refine ⟨_,cells_at h (i := 8) rfl,?_⟩
    refine And.intro (fun h4 => ?_) (fun h4 => ?_)
    · refine brT ?_
      exact ⟨rb (by have h4 : decide ((x.mode.toNat : Int) = ((3 : UInt8).toNat : Int)) = true := h4
                    rw [h4]; rfl),rfl⟩
    have h4 : decide ((x.mode.toNat : Int) = ((3 : UInt8).toNat : Int)) = false := h4
    refine ⟨_,cells_at h (i := 8) rfl,?_⟩
    refine And.intro (fun h5 => ?_) (fun h5 => ?_)
    · exact ⟨rb (by have h5 : decide ((x.mode.toNat : Int) = ((4 : UInt8).toNat : Int)) = true := h5
                    rw [h4,h5]; rfl),rfl⟩
    have h5 : decide ((x.mode.toNat : Int) = ((4 : UInt8).toNat : Int)) = false := h5
    refine ⟨_,cells_at h (i := 8) rfl,?_⟩
    exact ⟨rb (by rw [h4,h5]; rfl),rfl⟩
  have h3 : ¬ x.op = 7 := of_decide_eq_false ((u8d x.op 7).symm.trans h3)
  exact ⟨rb (by unfold modeL; rw [if_neg h1,if_neg h2,if_neg h3]),rfl⟩
theorem fnRight_c {g locs after : Nat} {x : InsD} {w : World} (h : Cells w ⟨g,0,none⟩ (spC x locs after)) :
    Calls Tryz.prog 169 #[.pointer (some ⟨g,0,none⟩)] w fun e w' => e = .returned (.bool (fnL x)) ∧ w = w' := by
  refine calls_of_E (S := sg 56) (sgOk _) (args := [.pointer (some ⟨g,0,none⟩)]) Tryz.func169 rfl rfl (Nat.le_of_ble_eq_true rfl) rfl ?_
  refine ⟨_,cells_at h (i := 0) rfl,?_⟩
  refine And.intro (fun h1 => ?_) (fun h1 => ?_)
  · have h1 : x.op = 3 := of_decide_eq_true ((u8d x.op 3).symm.trans h1)
    have e : fnL x = (decide (x.fn = 1) || (decide (x.fn = 2) || decide (x.fn = 3))) := by unfold fnL; rw [if_pos h1]
    rw [e,← u8d,← u8d,← u8d]
    refine ⟨_,cells_at h (i := 7) rfl,?_⟩
    refine And.intro (fun h4 => ?_) (fun h4 => ?_)
    · refine brT ?_
      exact ⟨rb (by have h4 : decide ((x.fn.toNat : Int) = ((1 : UInt8).toNat : Int)) = true := h4
                    rw [h4]; rfl),rfl⟩
    have h4 : decide ((x.fn.toNat : Int) = ((1 : UInt8).toNat : Int)) = false := h4
    refine ⟨_,cells_at h (i := 7) rfl,?_⟩
    refine And.intro (fun h5 => ?_) (fun h5 => ?_)
    · exact ⟨rb (by have h5 : decide ((x.fn.toNat : Int) = ((2 : UInt8).toNat : Int)) = true := h5
                    rw [h4,h5]; rfl),rfl⟩
    have h5 : decide ((x.fn.toNat : Int) = ((2 : UInt8).toNat : Int)) = false := h5
    refine ⟨_,cells_at h (i := 7) rfl,?_⟩
    exact ⟨rb (by rw [h4,h5]; rfl),rfl⟩
  have h1 : ¬ x.op = 3 := of_decide_eq_false ((u8d x.op 3).symm.trans h1)
  refine And.intro (fun h2 => ?_) (fun h2 => ?_)
  · have h2 : x.op = 8 := of_decide_eq_true ((u8d x.op 8).symm.trans h2)
    have e : fnL x = (decide (x.fn = 4) || (decide (x.fn = 5) || decide (x.fn = 6))) := by unfold fnL; rw [if_neg h1,if_pos h2]
    rw [e,← u8d,← u8d,← u8d]
    refine ⟨_,cells_at h (i := 7) rfl,?_⟩
    refine And.intro (fun h4 => ?_) (fun h4 => ?_)
    · refine brT ?_
      exact ⟨rb (by have h4 : decide ((x.fn.toNat : Int) = ((4 : UInt8).toNat : Int)) = true := h4
                    rw [h4]; rfl),rfl⟩
    have h4 : decide ((x.fn.toNat : Int) = ((4 : UInt8).toNat : Int)) = false := h4
    refine ⟨_,cells_at h (i := 7) rfl,?_⟩
    refine And.intro (fun h5 => ?_) (fun h5 => ?_)
    · exact ⟨rb (by have h5 : decide ((x.fn.toNat : Int) = ((5 : UInt8).toNat : Int)) = true := h5
                    rw [h4,h5]; rfl),rfl⟩
    have h5 : decide ((x.fn.toNat : Int) = ((5 : UInt8).toNat : Int)) = false := h5
    refine ⟨_,cells_at h (i := 7) rfl,?_⟩
    exact ⟨rb (by rw [h4,h5]; rfl),rfl⟩
  have h2 : ¬ x.op = 8 := of_decide_eq_false ((u8d x.op 8).symm.trans h2)
  exact ⟨rb (by unfold fnL; rw [if_neg h1,if_neg h2]),rfl⟩
end Go.Proofs.YtkpcgpmimejimaaGreatDoor
namespace Go.Proofs.YtkpcgpmimejimaaGreatDoor
open Go.Vc Go.RowKit Go.Sei
set_option maxRecDepth 4000
def zIns : InsD := ⟨0,0,0,false,0,false,0,0,0,0⟩
def nd0 (x : InsD) : InsD := { zIns with op := x.op }
def nd1 (x : InsD) : InsD := { nd0 x with dst := if hasL x.op 1 then x.dst else 0 }
def nd2 (x : InsD) : InsD := { nd1 x with loc := if hasL x.op 2 then x.loc else 0 }
def nd3 (x : InsD) : InsD := { nd2 x with ar := hasL x.op 4 && x.ar,an := if hasL x.op 4 then x.an else 0 }
def nd4 (x : InsD) : InsD := { nd3 x with br := hasL x.op 8 && x.br,bn := if hasL x.op 8 then x.bn else 0 }
def nd5 (x : InsD) : InsD := { nd4 x with fn := if hasL x.op 16 then x.fn else 0 }
def nd6 (x : InsD) : InsD := { nd5 x with mode := if hasL x.op 32 then x.mode else 0 }
def nd7 (x : InsD) : InsD := { nd6 x with skip := if hasL x.op 64 then x.skip else 0 }
theorem needed_c {g locs after : Nat} {x : InsD} {w : World} (h : Cells w ⟨g,0,none⟩ (spC x locs after)) (hg : g < w.heap.size) (hop : x.op.toNat ≤ 8) (hG : GlobC w) :
  Calls Tryz.prog 162 #[.pointer (some ⟨g,0,none⟩)] w fun e w' => e = .returned (.agg (insE.enc (neededL x)).toArray) ∧ Below w.heap.size w w' := by
 refine calls_of_M (S := sg 67) (sgOk _) (args := [.pointer (some ⟨g,0,none⟩)]) (.s .p (.c .p (.c .p (.c .p (.c .p (.c .p (.c .p (.c .p (.c .p .p))))))))) Tryz.func162 rfl rfl (Nat.le_of_ble_eq_true rfl) rfl ?_
 obtain ⟨r,hr⟩ : ∃ r,r = w.heap.size := ⟨_,rfl⟩
 obtain ⟨W0,hW0⟩ : ∃ W0,W0 = w.alloc (.cells (insE.enc zIns).toArray 69) := ⟨_,rfl⟩
 have hb0 : Below w.heap.size w W0 := by rw [hW0]; exact (Below.refl _ _).alloc (Nat.le_refl _) _
 have f0 : W0.heap[r]? = some (.cells (insE.enc zIns).toArray 69 (0,0)) := by rw [hW0,hr]; exact hnew w _
 have s0 : W0.heap.size = r + 1 := by rw [hW0,World.size_alloc,hr]
 let Good : InsD → World → Prop := fun y X => Below w.heap.size w X ∧ X.heap[r]? = some (.cells (insE.enc zIns).toArray 69 (0,0)) ∧ X.heap[r + 1]? = some (.cells (insE.enc y).toArray 69 (0,0))
 have good : ∀ y X,Good y X → Cells X ⟨g,0,none⟩ (spC x locs after) ∧ GlobC X ∧ g < X.heap.size := fun y X ⟨hb,_,_⟩ => ⟨cells_belowB hb hg h,hG.below hb,by have := hb.size; omega⟩
 have turn : ∀ y z X Y,Good y X → X.grownBy Y (some (r + 1)) → Y.heap[r + 1]? = some (.cells (insE.enc z).toArray 69 (0,0)) → Good z Y := fun y z X Y ⟨hb,h1,h2⟩ hg' h3 =>
  ⟨hb.grown hg' hb.size (fun k e => by simp only [Option.some.injEq] at e; omega),(hg'.block _ (hlt h1) (fun e => by simp only [Option.some.injEq] at e; omega)).trans h1,h3⟩
 have start : ∀ Y,Below W0.heap.size W0 Y → Y.heap[W0.heap.size]? = some (.cells (Value.agg (insE.enc (nd0 x)).toArray).cells 69 (0,0)) → Good (nd0 x) Y := fun Y hY fY =>
  ⟨hb0.trans (hY.mono hb0.size),block_below hY f0,by rw [← s0]; exact fY⟩
 have h0 : Cells W0 ⟨g,0,none⟩ (spC x locs after) := cells_belowB hb0 hg h
 have p2 : some (Value.pointer (some ⟨w.heap.size,0,none⟩)) = some (Value.pointer (some ⟨r,0,none⟩)) := by rw [hr]
 have p3 : some (Value.pointer (some ⟨W0.heap.size,0,none⟩)) = some (Value.pointer (some ⟨r + 1,0,none⟩)) := by rw [s0]
 refine ⟨Unit,fun _ => ⟨[(0,.pointer (some ⟨g,0,none⟩)),(2,.pointer (some ⟨r,0,none⟩)),(3,.pointer (some ⟨r + 1,0,none⟩))],[]⟩,fun _ X => Good (nd0 x) X,?_,?_⟩
 ·subst hW0
  refine ⟨_,cells_at h0 (i := 0) rfl,?_⟩
  refine ⟨insE.enc (nd0 x),rfl,?_⟩
  refine store_new (v := .agg (insE.enc (nd0 x)).toArray) (ttOk.get 69 _ rfl) rfl rfl rfl fun Y hbY fY sY => ?_
  exact ⟨(),⟨.cons rfl (.cons p2 (.cons p3 .nil)),rfl⟩,start Y hbY fY⟩
 clear start h0 f0 hb0 p2 p3 s0
 rintro _ Y hY
 refine ⟨Unit,fun _ => ⟨[(0,.pointer (some ⟨g,0,none⟩)),(2,.pointer (some ⟨r,0,none⟩)),(3,.pointer (some ⟨r + 1,0,none⟩))],[]⟩,fun _ X => Good (nd1 x) X,?_,?_⟩
 ·obtain ⟨hc,hGY,hgY⟩ := good _ Y hY
  refine Calls.mono (has_c 1 hc hop hGY) ?_
  rintro e _ ⟨rfl,rfl⟩
  refine And.intro (fun hh => ?_) (fun hh => ?_)
  ·have hh : hasL x.op 1 = true := hh
   have e : nd1 x = { nd0 x with dst := x.dst } := by unfold nd1; rw [if_pos hh]
   refine ⟨_,cells_at hc (i := 1) rfl,?_⟩
   refine store_cell (ttOk.get 5 _ rfl) rfl (hY.2.2) (o := 1) (by show 1 < 10; omega) (v := u8 x.dst) rfl rfl fun Z fZ gZ sZ => ?_
   exact ⟨(),⟨.cons rfl (.cons rfl (.cons rfl .nil)),rfl⟩,turn _ _ Y Z hY gZ (by rw [e]; exact fZ)⟩
  ·have hh : hasL x.op 1 = false := hh
   have e : nd1 x = nd0 x := by unfold nd1; rw [if_neg (by rw [hh]; decide)]; rfl
   exact ⟨(),⟨.cons rfl (.cons rfl (.cons rfl .nil)),rfl⟩,by rw [e]; exact hY⟩
 clear hY Y
 rintro _ Y hY
 refine ⟨Unit,fun _ => ⟨[(0,.pointer (some ⟨g,0,none⟩)),(2,.pointer (some ⟨r,0,none⟩)),(3,.pointer (some ⟨r + 1,0,none⟩))],[]⟩,fun _ X => Good (nd2 x) X,?_,?_⟩
 ·obtain ⟨hc,hGY,hgY⟩ := good _ Y hY
  refine Calls.mono (has_c 2 hc hop hGY) ?_
  rintro e _ ⟨rfl,rfl⟩
  refine And.intro (fun hh => ?_) (fun hh => ?_)
  ·have hh : hasL x.op 2 = true := hh
   have e : nd2 x = { nd1 x with loc := x.loc } := by unfold nd2; rw [if_pos hh]
   refine ⟨_,cells_at hc (i := 2) rfl,?_⟩
   refine store_cell (ttOk.get 5 _ rfl) rfl (hY.2.2) (o := 2) (by show 2 < 10; omega) (v := u8 x.loc) rfl rfl fun Z fZ gZ sZ => ?_
   exact ⟨(),⟨.cons rfl (.cons rfl (.cons rfl .nil)),rfl⟩,turn _ _ Y Z hY gZ (by rw [e]; exact fZ)⟩
  ·have hh : hasL x.op 2 = false := hh
   have e : nd2 x = nd1 x := by unfold nd2; rw [if_neg (by rw [hh]; decide)]; rfl
   exact ⟨(),⟨.cons rfl (.cons rfl (.cons rfl .nil)),rfl⟩,by rw [e]; exact hY⟩
 clear hY Y
 rintro _ Y hY
 refine ⟨Unit,fun _ => ⟨[(0,.pointer (some ⟨g,0,none⟩)),(2,.pointer (some ⟨r,0,none⟩)),(3,.pointer (some ⟨r + 1,0,none⟩))],[]⟩,fun _ X => Good (nd3 x) X,?_,?_⟩
 ·obtain ⟨hc,hGY,hgY⟩ := good _ Y hY
  refine Calls.mono (has_c 4 hc hop hGY) ?_
  rintro e _ ⟨rfl,rfl⟩
  refine And.intro (fun hh => ?_) (fun hh => ?_)
  ·have hh : hasL x.op 4 = true := hh
   have e : nd3 x = { nd2 x with ar := x.ar,an := x.an } := by unfold nd3; rw [hh,Bool.true_and,if_pos rfl]
   refine ⟨[.bool x.ar,u8 x.an],rfl,cells_sub (n := 3) (m := 2) hc,hgY,?_⟩
   refine store_part (ttOk.get 67 _ rfl) hY.2.2 (o := 3) (v := .agg #[.bool x.ar,u8 x.an]) rfl (by show 3 + 2 ≤ 10; omega) rfl fun Z fZ gZ sZ => ?_
   exact ⟨(),⟨.cons rfl (.cons rfl (.cons rfl .nil)),rfl⟩,turn _ _ Y Z hY gZ (by rw [e]; exact fZ)⟩
  ·have hh : hasL x.op 4 = false := hh
   have e : nd3 x = nd2 x := by unfold nd3; rw [hh,Bool.false_and,if_neg (by decide)]; rfl
   exact ⟨(),⟨.cons rfl (.cons rfl (.cons rfl .nil)),rfl⟩,by rw [e]; exact hY⟩
 clear hY Y
 rintro _ Y hY
 refine ⟨Unit,fun _ => ⟨[(0,.pointer (some ⟨g,0,none⟩)),(2,.pointer (some ⟨r,0,none⟩)),(3,.pointer (some ⟨r + 1,0,none⟩))],[]⟩,fun _ X => Good (nd4 x) X,?_,?_⟩
 ·obtain ⟨hc,hGY,hgY⟩ := good _ Y hY
  refine Calls.mono (has_c 8 hc hop hGY) ?_
  rintro e _ ⟨rfl,rfl⟩
  refine And.intro (fun hh => ?_) (fun hh => ?_)
  ·have hh : hasL x.op 8 = true := hh
   have e : nd4 x = { nd3 x with br := x.br,bn := x.bn } := by unfold nd4; rw [hh,Bool.true_and,if_pos rfl]
   refine ⟨[.bool x.br,u8 x.bn],rfl,cells_sub (n := 5) (m := 2) hc,hgY,?_⟩
   refine store_part (ttOk.get 67 _ rfl) hY.2.2 (o := 5) (v := .agg #[.bool x.br,u8 x.bn]) rfl (by show 5 + 2 ≤ 10; omega) rfl fun Z fZ gZ sZ => ?_
   exact ⟨(),⟨.cons rfl (.cons rfl (.cons rfl .nil)),rfl⟩,turn _ _ Y Z hY gZ (by rw [e]; exact fZ)⟩
  ·have hh : hasL x.op 8 = false := hh
   have e : nd4 x = nd3 x := by unfold nd4; rw [hh,Bool.false_and,if_neg (by decide)]; rfl
   exact ⟨(),⟨.cons rfl (.cons rfl (.cons rfl .nil)),rfl⟩,by rw [e]; exact hY⟩
 clear hY Y
 rintro _ Y hY
 refine ⟨Unit,fun _ => ⟨[(0,.pointer (some ⟨g,0,none⟩)),(2,.pointer (some ⟨r,0,none⟩)),(3,.pointer (some ⟨r + 1,0,none⟩))],[]⟩,fun _ X => Good (nd5 x) X,?_,?_⟩
 ·obtain ⟨hc,hGY,hgY⟩ := good _ Y hY
  refine Calls.mono (has_c 16 hc hop hGY) ?_
  rintro e _ ⟨rfl,rfl⟩
  refine And.intro (fun hh => ?_) (fun hh => ?_)
  ·have hh : hasL x.op 16 = true := hh
   have e : nd5 x = { nd4 x with fn := x.fn } := by unfold nd5; rw [if_pos hh]
   refine ⟨_,cells_at hc (i := 7) rfl,?_⟩
   refine store_cell (ttOk.get 5 _ rfl) rfl (hY.2.2) (o := 7) (by show 7 < 10; omega) (v := u8 x.fn) rfl rfl fun Z fZ gZ sZ => ?_
   exact ⟨(),⟨.cons rfl (.cons rfl (.cons rfl .nil)),rfl⟩,turn _ _ Y Z hY gZ (by rw [e]; exact fZ)⟩
  ·have hh : hasL x.op 16 = false := hh
   have e : nd5 x = nd4 x := by unfold nd5; rw [if_neg (by rw [hh]; decide)]; rfl
   exact ⟨(),⟨.cons rfl (.cons rfl (.cons rfl .nil)),rfl⟩,by rw [e]; exact hY⟩
 clear hY Y
 rintro _ Y hY
 refine ⟨Unit,fun _ => ⟨[(0,.pointer (some ⟨g,0,none⟩)),(2,.pointer (some ⟨r,0,none⟩)),(3,.pointer (some ⟨r + 1,0,none⟩))],[]⟩,fun _ X => Good (nd6 x) X,?_,?_⟩
 ·obtain ⟨hc,hGY,hgY⟩ := good _ Y hY
  refine Calls.mono (has_c 32 hc hop hGY) ?_
  rintro e _ ⟨rfl,rfl⟩
  refine And.intro (fun hh => ?_) (fun hh => ?_)
  ·have hh : hasL x.op 32 = true := hh
   have e : nd6 x = { nd5 x with mode := x.mode } := by unfold nd6; rw [if_pos hh]
   refine ⟨_,cells_at hc (i := 8) rfl,?_⟩
   refine store_cell (ttOk.get 5 _ rfl) rfl (hY.2.2) (o := 8) (by show 8 < 10; omega) (v := u8 x.mode) rfl rfl fun Z fZ gZ sZ => ?_
   exact ⟨(),⟨.cons rfl (.cons rfl (.cons rfl .nil)),rfl⟩,turn _ _ Y Z hY gZ (by rw [e]; exact fZ)⟩
  ·have hh : hasL x.op 32 = false := hh
   have e : nd6 x = nd5 x := by unfold nd6; rw [if_neg (by rw [hh]; decide)]; rfl
   exact ⟨(),⟨.cons rfl (.cons rfl (.cons rfl .nil)),rfl⟩,by rw [e]; exact hY⟩
 clear hY Y
 rintro _ Y hY
 refine ⟨Unit,fun _ => ⟨[(0,.pointer (some ⟨g,0,none⟩)),(2,.pointer (some ⟨r,0,none⟩)),(3,.pointer (some ⟨r + 1,0,none⟩))],[]⟩,fun _ X => Good (nd7 x) X,?_,?_⟩
 ·obtain ⟨hc,hGY,hgY⟩ := good _ Y hY
  refine Calls.mono (has_c 64 hc hop hGY) ?_
  rintro e _ ⟨rfl,rfl⟩
  refine And.intro (fun hh => ?_) (fun hh => ?_)
  ·have hh : hasL x.op 64 = true := hh
   have e : nd7 x = { nd6 x with skip := x.skip } := by unfold nd7; rw [if_pos hh]
   refine ⟨_,cells_at hc (i := 9) rfl,?_⟩
   refine store_cell (ttOk.get 5 _ rfl) rfl (hY.2.2) (o := 9) (by show 9 < 10; omega) (v := u8 x.skip) rfl rfl fun Z fZ gZ sZ => ?_
   exact ⟨(),⟨.cons rfl (.cons rfl (.cons rfl .nil)),rfl⟩,turn _ _ Y Z hY gZ (by rw [e]; exact fZ)⟩
  ·have hh : hasL x.op 64 = false := hh
   have e : nd7 x = nd6 x := by unfold nd7; rw [if_neg (by rw [hh]; decide)]; rfl
   exact ⟨(),⟨.cons rfl (.cons rfl (.cons rfl .nil)),rfl⟩,by rw [e]; exact hY⟩
 clear hY Y
 rintro _ Y hY
 refine ⟨_,rfl,cells_block hY.2.2,hlt hY.2.2,?_⟩
 refine store_box (v := .agg (insE.enc (nd7 x)).toArray) (ttOk.get 69 _ rfl) hY.2.1 rfl rfl rfl ?_
 refine ⟨_,rfl,cells_block (setRow_new hY.2.1),?_⟩
 exact ⟨rfl,below_setRow hY.1 (by omega) _⟩
end Go.Proofs.YtkpcgpmimejimaaGreatDoor
namespace Go.Vc
open Go.RowKit
def chunk (cs : List Value) (o n : Nat) : List Value := (cs.drop o).take n
theorem chunk_add (cs : List Value) (o n m : Nat) : chunk cs o (n + m) = chunk cs o n ++ chunk cs (o + n) m := by
 unfold chunk; rw [List.take_add,List.drop_drop]
theorem chunk_len {cs : List Value} {o n : Nat} (h : o + n ≤ cs.length) : (chunk cs o n).length = n := by
 unfold chunk; rw [List.length_take,List.length_drop]; omega
def vOf (g : Bool) (a : List Value) : Value := match g with | true => .agg a.toArray | false => a.headD undef
structure TyEq (P : Program) (T : TypeId) (g : Bool) (n k : Nat) (G : List Value → Prop) : Prop where
 ag : ∀ w,(isAgg T).run P w = .ok g w
 info : ∃ i,P.info? T = some i
 cl : P.cellsOf T = n
 one : g = false → n = 1
 eq : ∀ d w a b,a.length = n → b.length = n → G a → G b → ∃ r : Bool,(Op.equalIn (d + k) T (vOf g a) (vOf g b)).run P w = .ok r w ∧ (r = true ↔ a = b)
section
variable {P : Program}
theorem TyEq.up {T : TypeId} {g : Bool} {n k : Nat} {G : List Value → Prop} (h : TyEq P T g n k G) (m : Nat) : TyEq P T g n (m + k) G :=
 ⟨h.ag,h.info,h.cl,h.one,fun d w a b h1 h2 h3 h4 => by have := h.eq (d + m) w a b h1 h2 h3 h4; rwa [Nat.add_assoc] at this⟩
theorem TyEq.part {T : TypeId} {g : Bool} {n k : Nat} {G : List Value → Prop} (h : TyEq P T g n k G) (xs : Array Value) (o : Nat) (hs : o + n ≤ xs.size) (w : World) : (Go.part T xs o).run P w = .ok (vOf g (chunk xs.toList o n)) w := by
 obtain ⟨i,hi⟩ := h.info
 have hsz := run_sizeOf w hi
 rw [h.cl] at hsz
 simp only [Go.part,Sem.run_bind,h.ag,Result.andThen_ok]
 cases g with
 | true =>
  simp only [if_true,Sem.run_bind,hsz,Result.andThen_ok,Sem.run_pure,vOf]
  congr 2
  apply Array.toList_inj.1
  simp [chunk,Array.toList_extract,List.extract_eq_take_drop]
 | false =>
  have h1 := h.one rfl
  subst h1
  have ho : o < xs.size := by omega
  simp only [Bool.false_eq_true,if_false,Array.getElem?_eq_getElem ho,Sem.run_pure,vOf]
  congr 1
  unfold chunk
  rw [List.drop_eq_getElem_cons (by simpa using ho)]
  simp
inductive Tile (P : Program) (k : Nat) : List Field → Nat → Nat → (List Value → Prop) → Prop
 | nil {s : Nat} : Tile P k [] s s (fun _ => True)
 | cons {f : Field} {fs : List Field} {s e n : Nat} {g : Bool} {G G' : List Value → Prop} (hn : f.name ≠ "_") (ho : f.offset = s) (ht : TyEq P f.type g n k G) (hr : Tile P k fs (s + n) e G') : Tile P k (f :: fs) s e (fun cs => G (cs.take n) ∧ G' (cs.drop n))
theorem Tile.le {k : Nat} {fs : List Field} {s e : Nat} {G : List Value → Prop} (h : Tile P k fs s e G) : s ≤ e := by
 induction h with
 | nil => exact Nat.le_refl _
 | cons _ _ _ _ ih => omega
theorem Tile.eq {k : Nat} {fs : List Field} {s e : Nat} {G : List Value → Prop} (h : Tile P k fs s e G) : ∀ (d : Nat) (xs ys : Array Value) (w : World),e ≤ xs.size → e ≤ ys.size → G (chunk xs.toList s (e - s)) → G (chunk ys.toList s (e - s)) →
  ∃ r : Bool,(Op.eqFields (d + k) xs ys fs).run P w = .ok r w ∧ (r = true ↔ chunk xs.toList s (e - s) = chunk ys.toList s (e - s)) := by
 induction h with
 | nil => intro d xs ys w _ _ _ _; exact ⟨true,rfl,by simp [chunk]⟩
 | @cons f fs s e n g G G' hn ho ht hr ih =>
  intro d xs ys w hx hy hgx hgy
  have hle := hr.le
  have e1 : e - s = n + (e - (s + n)) := by omega
  rw [e1,chunk_add] at hgx hgy
  rw [e1,chunk_add,chunk_add]
  have lx : (chunk xs.toList s n).length = n := chunk_len (by simp; omega)
  have ly : (chunk ys.toList s n).length = n := chunk_len (by simp; omega)
  obtain ⟨gx1,gx2⟩ := hgx
  obtain ⟨gy1,gy2⟩ := hgy
  rw [List.take_append_of_le_length (by omega),List.take_of_length_le (by omega)] at gx1 gy1
  rw [List.drop_append_of_le_length (by omega),List.drop_of_length_le (by omega),List.nil_append] at gx2 gy2
  obtain ⟨r1,h1,h2⟩ := ht.eq d w _ _ lx ly gx1 gy1
  obtain ⟨r2,h3,h4⟩ := ih d xs ys w hx hy gx2 gy2
  simp only [Op.eqFields,hn,ne_eq,not_false_eq_true,if_true,Sem.run_bind,ho,ht.part xs s (by omega) w,ht.part ys s (by omega) w,Result.andThen_ok,h1]
  have hap : (chunk xs.toList s n ++ chunk xs.toList (s + n) (e - (s + n)) = chunk ys.toList s n ++ chunk ys.toList (s + n) (e - (s + n))) ↔ (chunk xs.toList s n = chunk ys.toList s n ∧ chunk xs.toList (s + n) (e - (s + n)) = chunk ys.toList (s + n) (e - (s + n))) :=
   ⟨fun h => List.append_inj h (by rw [lx,ly]),fun h => by rw [h.1,h.2]⟩
  rw [hap,← h2,← h4]
  cases r1 with
  | true => exact ⟨r2,by simpa using h3,by simp⟩
  | false => exact ⟨false,by simp,by simp⟩
theorem TyEq.struct {T : TypeId} {k n : Nat} {G : List Value → Prop} (hu : P.underlying T = some (.struct (P.fieldsOf T))) (hp : P.stoodInHeld T = false) (hag : ∀ w,(isAgg T).run P w = .ok true w) (hi : ∃ i,P.info? T = some i) (hc : P.cellsOf T = n)
  (ht : Tile P k (P.fieldsOf T).toList 0 n G) : TyEq P T true n (k + 1) G :=
 ⟨hag,hi,hc,fun h => (by cases h),fun d w a b ha hb ga gb => by
  have e : ∀ l : List Value,l.length = n → chunk l.toArray.toList 0 (n - 0) = l := fun l hl => by
   unfold chunk; rw [List.drop_zero,Nat.sub_zero]; exact List.take_of_length_le (by show l.length ≤ n; omega)
  obtain ⟨r,h1,h2⟩ := ht.eq d a.toArray b.toArray w (by simp; omega) (by simp; omega) (by rw [e a ha]; exact ga) (by rw [e b hb]; exact gb)
  rw [e a ha,e b hb] at h2
  refine ⟨r,?_,h2⟩
  have := run_equalIn_struct (P := P) w (d + k) T a.toArray b.toArray hu hp
  rw [← Nat.add_assoc]
  exact this.trans h1⟩
theorem chunks_eq {n m : Nat} (hn : 0 < n) {a b : List Value} (ha : a.length = m * n) (hb : b.length = m * n) (h : ∀ i,i < m → chunk a (i * n) n = chunk b (i * n) n) : a = b := by
 apply List.ext_getElem?
 intro j
 by_cases hj : j < m * n
 ·have hd : j / n < m := Nat.div_lt_of_lt_mul (by rw [Nat.mul_comm]; exact hj)
  have h1 := congrArg (fun l => l[j % n]?) (h _ hd)
  simp only [chunk,List.getElem?_take,if_pos (Nat.mod_lt j hn),List.getElem?_drop] at h1
  rw [Nat.mul_comm,Nat.div_add_mod] at h1
  exact h1
 ·rw [List.getElem?_eq_none (by omega),List.getElem?_eq_none (by omega)]
theorem TyEq.array {T e : TypeId} {g : Bool} {n k m : Nat} {G : List Value → Prop} (hn : 0 < n) (hu : P.underlying T = some (.array m e)) (hag : ∀ w,(isAgg T).run P w = .ok true w) (hi : ∃ i,P.info? T = some i) (hc : P.cellsOf T = m * n) (ht : TyEq P e g n k G) :
  TyEq P T true (m * n) (k + 1) (fun cs => ∀ i,i < m → G (chunk cs (i * n) n)) :=
 ⟨hag,hi,hc,fun h => (by cases h),fun d w a b ha hb ga gb => by
  obtain ⟨ie,hie⟩ := ht.info
  have key : ∀ is : List Nat,(∀ i ∈ is,i < m) → ∃ r : Bool,(Op.eqItems (d + k) e n a.toArray b.toArray is).run P w = .ok r w ∧ (r = true ↔ ∀ i ∈ is,chunk a (i * n) n = chunk b (i * n) n) := by
   intro is
   induction is with
   | nil => intro _; exact ⟨true,rfl,by simp⟩
   | cons i is ih =>
    intro him
    have hi := him i List.mem_cons_self
    have hle : i * n + n ≤ m * n := by rw [← Nat.succ_mul]; exact Nat.mul_le_mul_right _ hi
    obtain ⟨r2,h3,h4⟩ := ih fun j hj => him j (List.mem_cons_of_mem _ hj)
    obtain ⟨r1,h1,h2⟩ := ht.eq d w (chunk a (i * n) n) (chunk b (i * n) n) (chunk_len (by omega)) (chunk_len (by omega)) (ga i hi) (gb i hi)
    have p1 := ht.part a.toArray (i * n) (by simp; omega) w
    have p2 := ht.part b.toArray (i * n) (by simp; omega) w
    have ea : a.toArray.toList = a := rfl
    have eb : b.toArray.toList = b := rfl
    rw [ea] at p1
    rw [eb] at p2
    simp only [Op.eqItems,Sem.run_bind,p1,p2,Result.andThen_ok,h1]
    cases r1 with
    | true =>
     refine ⟨r2,by simpa using h3,?_⟩
     rw [h4]
     have := h2.1 rfl
     simp [this]
    | false =>
     refine ⟨false,by simp,?_⟩
     simp only [Bool.false_eq_true,false_iff]
     intro h
     have := h2.2 (h i List.mem_cons_self)
     cases this
  obtain ⟨r,h1,h2⟩ := key (List.range m) fun i hi => List.mem_range.1 hi
  refine ⟨r,?_,?_⟩
  ·have := run_equalIn_array (P := P) w (d + k) a.toArray b.toArray hu hie
   rw [ht.cl] at this
   rw [← Nat.add_assoc]
   exact this.trans h1
  ·rw [h2]
   exact ⟨fun h => chunks_eq hn ha hb fun i hi => h i (List.mem_range.2 hi),fun h i _ => by rw [h]⟩⟩
theorem TyEq.int {T : TypeId} {q : IntKind} (hu : P.underlying T = some (.int q)) (hag : ∀ w,(isAgg T).run P w = .ok false w) (hi : ∃ i,P.info? T = some i) (hc : P.cellsOf T = 1) : TyEq P T false 1 1 (fun cs => ∃ x,cs = [.int q x]) :=
 ⟨hag,hi,hc,fun _ => rfl,fun d w a b _ _ ⟨x,hx⟩ ⟨y,hy⟩ => by
  subst hx hy
  refine ⟨decide (x = y),?_,by simp⟩
  simp only [vOf,List.headD_cons,Op.equalIn,Sem.run_bind,run_underlying hu,Result.andThen_ok,if_true,Sem.run_pure]
  congr 1⟩
theorem TyEq.bool {T : TypeId} (hu : P.underlying T = some .bool) (hag : ∀ w,(isAgg T).run P w = .ok false w) (hi : ∃ i,P.info? T = some i) (hc : P.cellsOf T = 1) : TyEq P T false 1 1 (fun cs => ∃ x,cs = [.bool x]) :=
 ⟨hag,hi,hc,fun _ => rfl,fun d w a b _ _ ⟨x,hx⟩ ⟨y,hy⟩ => by
  subst hx hy
  refine ⟨x == y,?_,by simp⟩
  simp only [vOf,List.headD_cons,Op.equalIn,Sem.run_bind,run_underlying hu,Result.andThen_ok,Sem.run_pure]⟩
end
end Go.Vc
namespace Go.Proofs.YtkpcgpmimejimaaGreatDoor
open Go.Vc Go.RowKit Go.Sei
def GInt (q : IntKind) (cs : List Value) : Prop := ∃ x,cs = [.int q x]
def GBool (cs : List Value) : Prop := ∃ x,cs = [.bool x]
theorem tU8 : TyEq Tryz.prog 5 false 1 1 (GInt .u8) := .int Tryz.underlying5 (fun w => Tryz.isAgg5 w) (known_of (by kernel_rfl) (by kernel_rfl)).1 (by kernel_rfl)
theorem tBool : TyEq Tryz.prog 4 false 1 1 GBool := .bool Tryz.underlying4 (fun w => Tryz.isAgg4 w) (known_of (by kernel_rfl) (by kernel_rfl)).1 (by kernel_rfl)
theorem uf {T : TypeId} {F : Array Field} (h : Tryz.prog.underlying T = some (.struct F)) : Tryz.prog.underlying T = some (.struct (Tryz.prog.fieldsOf T)) ∧ Tryz.prog.fieldsOf T = F := by
 have : Tryz.prog.fieldsOf T = F := by unfold Program.fieldsOf; rw [h]
 exact ⟨by rw [this]; exact h,this⟩
open Classical in
noncomputable def cdec (p : Prop) : Bool := decide p
theorem cdec_eq {p : Prop} [h : Decidable p] : cdec p = decide p := by unfold cdec; congr
theorem cdec_iff {p q : Prop} [Decidable q] (h : p ↔ q) : cdec p = decide q := by
 have : p = q := propext h
 subst this
 exact cdec_eq
section
variable {T : TypeId} {n k : Nat} {G : List Value → Prop} (h : TyEq Tryz.prog T true n k G) (d : Nat) (hd : d + k = 10000) (hg : Tryz.prog.eqGuardType Tryz.prog.depth T = false) {a b : List Value} (ha : a.length = n) (hb : b.length = n) (ga : G a) (gb : G b)
include h hd hg ha hb ga gb
omit hg in
theorem equal_ty (w : World) : (Op.equal T (.agg a.toArray) (.agg b.toArray)).run Tryz.prog w = .ok (cdec (a = b)) w := by
 obtain ⟨r,h1,h2⟩ := h.eq d w a b ha hb ga gb
 have e : r = cdec (a = b) := by
  unfold cdec
  cases r with
  | true => simp [h2.1 rfl]
  | false =>
   have : ¬ a = b := fun e => by have := h2.2 e; cases this
   simp [this]
 rw [hd] at h1
 rw [← e]
 exact h1
theorem neq_ty (x y : Operand) (w : World) : (do eqGuard .neq T x y (.agg a.toArray) (.agg b.toArray); binOp .neq T (.agg a.toArray) (.agg b.toArray)).run Tryz.prog w = .ok (.bool (!cdec (a = b))) w := by
 have he := equal_ty h d hd ha hb ga gb w
 have h1 : (eqGuard .neq T x y (.agg a.toArray) (.agg b.toArray)).run Tryz.prog w = .ok () w := by
  simp only [eqGuard,Bool.not_true,Bool.false_eq_true,if_false,Sem.run_bind,run_program,Result.andThen_ok,hg,Bool.not_false,if_true,Sem.run_pure]
 rw [Sem.run_bind,h1]
 simp only [Result.andThen_ok,binOp,Sem.run_bind,he,Sem.run_pure]
theorem eql_ty (x y : Operand) (w : World) : (do eqGuard .eql T x y (.agg a.toArray) (.agg b.toArray); binOp .eql T (.agg a.toArray) (.agg b.toArray)).run Tryz.prog w = .ok (.bool (cdec (a = b))) w := by
 have he := equal_ty h d hd ha hb ga gb w
 have h1 : (eqGuard .eql T x y (.agg a.toArray) (.agg b.toArray)).run Tryz.prog w = .ok () w := by
  simp only [eqGuard,Bool.not_true,Bool.false_eq_true,if_false,Sem.run_bind,run_program,Result.andThen_ok,hg,Bool.not_false,if_true,Sem.run_pure]
 rw [Sem.run_bind,h1]
 simp only [Result.andThen_ok,binOp,Sem.run_bind,he,Sem.run_pure]
end
end Go.Proofs.YtkpcgpmimejimaaGreatDoor
namespace Go.Proofs.YtkpcgpmimejimaaGreatDoor
open Go.Vc Go.RowKit Go.Sei
theorem tArg : ∃ G,TyEq Tryz.prog 67 true 2 2 G ∧ ∀ r n,G [.bool r,u8 n] := by
 refine ⟨_,.struct (uf Tryz.underlying67).1 (by kernel_rfl) (fun w => Tryz.isAgg67 w) (known_of (by kernel_rfl) (by kernel_rfl)).1 (by kernel_rfl)
  (by rw [(uf Tryz.underlying67).2]; exact .cons (by decide) rfl tBool (.cons (by decide) rfl tU8 .nil)),fun r n => ?_⟩
 exact ⟨⟨_,rfl⟩,⟨_,rfl⟩,trivial⟩
theorem tIns : ∃ G,TyEq Tryz.prog 69 true 10 3 G ∧ ∀ x,G (insE.enc x) := by
 obtain ⟨G,h1,h2⟩ := tArg
 refine ⟨_,.struct (uf Tryz.underlying69).1 (by kernel_rfl) (fun w => Tryz.isAgg69 w) (known_of (by kernel_rfl) (by kernel_rfl)).1 (by kernel_rfl)
  (by rw [(uf Tryz.underlying69).2]; exact .cons (by decide) rfl (tU8.up 1) (.cons (by decide) rfl (tU8.up 1) (.cons (by decide) rfl (tU8.up 1) (.cons (by decide) rfl h1 (.cons (by decide) rfl h1 (.cons (by decide) rfl (tU8.up 1) (.cons (by decide) rfl (tU8.up 1) (.cons (by decide) rfl (tU8.up 1) .nil)))))))),fun x => ?_⟩
 exact ⟨⟨_,rfl⟩,⟨_,rfl⟩,⟨_,rfl⟩,h2 _ _,h2 _ _,⟨_,rfl⟩,⟨_,rfl⟩,⟨_,rfl⟩,trivial⟩
theorem u8v_inj {a b : UInt8} (h : u8 a = u8 b) : a = b := by
 unfold u8 at h
 simp only [Value.int.injEq,true_and] at h
 exact u8_eq.1 h
theorem ins_inj {a b : InsD} : insE.enc a = insE.enc b ↔ a = b := by
 constructor
 ·intro h
  obtain ⟨a0,a1,a2,a3,a4,a5,a6,a7,a8,a9⟩ := a
  obtain ⟨b0,b1,b2,b3,b4,b5,b6,b7,b8,b9⟩ := b
  simp only [insE,List.cons.injEq,and_true,Value.bool.injEq] at h
  obtain ⟨h0,h1,h2,rfl,h4,rfl,h6,h7,h8,h9⟩ := h
  rw [u8v_inj h0,u8v_inj h1,u8v_inj h2,u8v_inj h4,u8v_inj h6,u8v_inj h7,u8v_inj h8,u8v_inj h9]
 ·exact fun h => by rw [h]
theorem eql_ins (x y : Operand) (a b : InsD) (w : World) : (do eqGuard .eql 69 x y (.agg (insE.enc a).toArray) (.agg (insE.enc b).toArray); binOp .eql 69 (.agg (insE.enc a).toArray) (.agg (insE.enc b).toArray)).run Tryz.prog w = .ok (.bool (decide (a = b))) w := by
 obtain ⟨G,h,hG⟩ := tIns
 rw [eql_ty h 9997 rfl (by kernel_rfl) rfl rfl (hG a) (hG b) x y w,cdec_iff ins_inj]
structure SpV (X : World) (g bx : Nat) (x : InsD) (locs after : Nat) : Prop where
 c : X.heap[g]? = some (.cells (spC x locs after).toArray 213 (0,0))
 b : X.heap[bx]? = some (.cells #[.pointer (some ⟨g,0,none⟩)] 237 (0,0))
 G : GlobC X
theorem SpV.below {X Y : World} {g bx locs after : Nat} {x : InsD} (h : SpV X g bx x locs after) (hb : Below X.heap.size X Y) : SpV Y g bx x locs after := ⟨block_below hb h.c,block_below hb h.b,h.G.below hb⟩
theorem SpV.cells {X : World} {g bx locs after : Nat} {x : InsD} (h : SpV X g bx x locs after) : Cells X ⟨g,0,none⟩ (spC x locs after) := cells_block h.c
section
variable {g bx locs after : Nat} {x : InsD} {w : World}
theorem cond1_c (h : SpV w g bx x locs after) : Calls Tryz.prog 160 #[.pointer (some ⟨bx,0,none⟩)] w fun e w' => e = .returned (.bool (decide (1 ≤ x.op.toNat) && decide (x.op.toNat ≤ 8))) ∧ Below w.heap.size w w' := by
 refine calls_of_E (S := sg 16) (sgOk _) (args := [.pointer (some ⟨bx,0,none⟩)]) Tryz.func160 rfl rfl (Nat.le_of_ble_eq_true rfl) rfl ?_
 refine ⟨_,cells_at (cells_block h.b) (i := 0) rfl,?_⟩
 refine ⟨_,cells_at h.cells (i := 0) rfl,?_⟩
 refine And.intro (fun h1 => ?_) (fun h1 => ?_)
 ·have h1 : (1 : Int) ≤ x.op.toNat := of_decide_eq_true h1
  refine ⟨_,cells_at (cells_block h.b) (i := 0) rfl,?_⟩
  refine ⟨_,cells_at h.cells (i := 0) rfl,?_⟩
  refine ⟨rb ?_,Below.refl _ _⟩
  rw [decide_eq_true (p := 1 ≤ x.op.toNat) (by omega),Bool.true_and,decide_eq_decide]
  show (x.op.toNat : Int) ≤ 8 ↔ _
  omega
 ·have h1 : ¬ (1 : Int) ≤ x.op.toNat := of_decide_eq_false h1
  refine ⟨rb ?_,Below.refl _ _⟩
  rw [decide_eq_false (p := 1 ≤ x.op.toNat) (by omega)]; rfl
theorem cond2_c (h : SpV w g bx x locs after) (hop : x.op.toNat ≤ 8) : Calls Tryz.prog 161 #[.pointer (some ⟨bx,0,none⟩)] w fun e w' => e = .returned (.bool (decide (x = neededL x))) ∧ Below w.heap.size w w' := by
 refine calls_of_E (S := sg 9) (sgOk _) (args := [.pointer (some ⟨bx,0,none⟩)]) Tryz.func161 rfl rfl (Nat.le_of_ble_eq_true rfl) rfl ?_
 have hd : SpV w.drew g bx x locs after := h.below (Below.refl _ w).drew
 refine DrawE.ord [] [0,1,2,3,4,5,6,7] (by kernel_rfl) ?_
 refine ⟨_,cells_at (cells_block hd.b) (i := 0) rfl,?_⟩
 refine ⟨insE.enc x,rfl,cells_sub (n := 0) (m := 10) hd.cells,hlt hd.c,?_⟩
 refine ⟨_,cells_at (cells_block hd.b) (i := 0) rfl,?_⟩
 refine Calls.mono (needed_c hd.cells (hlt hd.c) hop hd.G) ?_
 rintro e V ⟨rfl,hb⟩
 refine ⟨hb,?_⟩
 refine ⟨_,fun w => eql_ins _ _ x (neededL x) w,?_⟩
 exact ⟨rfl,(Below.refl _ w).drew.trans hb⟩
theorem cond3_c (h : SpV w g bx x locs after) : Calls Tryz.prog 163 #[.pointer (some ⟨bx,0,none⟩)] w fun e w' => e = .returned (.bool (decide (x.dst.toNat < 8))) ∧ Below w.heap.size w w' := by
 refine calls_of_E (S := sg 8) (sgOk _) (args := [.pointer (some ⟨bx,0,none⟩)]) Tryz.func163 rfl rfl (Nat.le_of_ble_eq_true rfl) rfl ?_
 refine ⟨_,cells_at (cells_block h.b) (i := 0) rfl,?_⟩
 refine ⟨_,cells_at h.cells (i := 1) rfl,?_⟩
 refine ⟨rb ?_,Below.refl _ _⟩
 show decide ((x.dst.toNat : Int) < 8) = _
 rw [decide_eq_decide]; omega
theorem cond4_c (h : SpV w g bx x locs after) (hop : x.op.toNat ≤ 8) : Calls Tryz.prog 164 #[.pointer (some ⟨bx,0,none⟩)] w fun e w' => e = .returned (.bool (!hasL x.op 2 || decide (x.loc.toNat < locs))) ∧ Below w.heap.size w w' := by
 refine calls_of_E (S := sg 18) (sgOk _) (args := [.pointer (some ⟨bx,0,none⟩)]) Tryz.func164 rfl rfl (Nat.le_of_ble_eq_true rfl) rfl ?_
 have hd : SpV w.drew g bx x locs after := h.below (Below.refl _ w).drew
 refine DrawE.ord [] [0,1,2,3,4,5,6,7,8,9,10,11,12,13,14,15,16] (by kernel_rfl) ?_
 refine ⟨_,cells_at (cells_block hd.b) (i := 0) rfl,?_⟩
 refine Calls.mono (has_c 2 hd.cells hop hd.G) ?_
 rintro e _ ⟨rfl,rfl⟩
 refine ⟨Below.refl _ _,?_⟩
 refine And.intro (fun h1 => ?_) (fun h1 => ?_)
 ·have h1 : (!hasL x.op 2) = true := h1
  exact ⟨rb (by rw [h1]; rfl),(Below.refl _ w).drew⟩
 ·have h1 : (!hasL x.op 2) = false := h1
  refine ⟨_,cells_at (cells_block hd.b) (i := 0) rfl,?_⟩
  refine ⟨_,cells_at hd.cells (i := 2) rfl,?_⟩
  refine ⟨_,wrap_u8_i64 _,?_⟩
  refine ⟨_,cells_at (cells_block hd.b) (i := 0) rfl,?_⟩
  refine ⟨_,cells_at hd.cells (i := 10) rfl,?_⟩
  refine ⟨rb ?_,(Below.refl _ w).drew⟩
  rw [h1,Bool.false_or,decide_eq_decide]
  omega
theorem cond5_c (h : SpV w g bx x locs after) : Calls Tryz.prog 166 #[.pointer (some ⟨bx,0,none⟩)] w fun e w' => e = .returned (.bool (argL x.ar x.an && argL x.br x.bn)) ∧ Below w.heap.size w w' := by
 refine calls_of_E (S := sg 16) (sgOk _) (args := [.pointer (some ⟨bx,0,none⟩)]) Tryz.func166 rfl rfl (Nat.le_of_ble_eq_true rfl) rfl ?_
 refine ⟨_,cells_at (cells_block h.b) (i := 0) rfl,?_⟩
 refine ⟨[.bool x.ar,u8 x.an],rfl,cells_sub (n := 3) (m := 2) h.cells,hlt h.c,?_⟩
 refine Calls.mono (argRight_c x.ar x.an w) ?_
 rintro e V ⟨rfl,hb⟩
 have hV := h.below hb
 refine And.intro (fun h1 => ?_) (fun h1 => ?_)
 ·have h1 : argL x.ar x.an = true := h1
  refine ⟨_,cells_at (cells_block hV.b) (i := 0) rfl,?_⟩
  refine ⟨[.bool x.br,u8 x.bn],rfl,cells_sub (n := 5) (m := 2) hV.cells,hlt hV.c,?_⟩
  refine Calls.mono (argRight_c x.br x.bn V) ?_
  rintro e U ⟨rfl,hb2⟩
  exact ⟨rb (by rw [h1,Bool.true_and]),hb.trans (hb2.mono hb.size)⟩
 ·have h1 : argL x.ar x.an = false := h1
  exact ⟨rb (by rw [h1,Bool.false_and]),hb⟩
theorem cond8_c (h : SpV w g bx x locs after) (hop : x.op.toNat ≤ 8) : Calls Tryz.prog 170 #[.pointer (some ⟨bx,0,none⟩)] w fun e w' => e = .returned (.bool (!hasL x.op 64 || (decide (1 ≤ x.skip.toNat) && decide (x.skip.toNat ≤ after)))) ∧ Below w.heap.size w w' := by
 refine calls_of_E (S := sg 26) (sgOk _) (args := [.pointer (some ⟨bx,0,none⟩)]) Tryz.func170 rfl rfl (Nat.le_of_ble_eq_true rfl) rfl ?_
 have hd : SpV w.drew g bx x locs after := h.below (Below.refl _ w).drew
 refine DrawE.ord [] [0,1,2,3,4,5,6,7,8,9,10,11,12,13,14,15,16,17,18,19,20,21,22,23,24] (by kernel_rfl) ?_
 refine ⟨_,cells_at (cells_block hd.b) (i := 0) rfl,?_⟩
 refine Calls.mono (has_c 64 hd.cells hop hd.G) ?_
 rintro e _ ⟨rfl,rfl⟩
 refine ⟨Below.refl _ _,?_⟩
 refine And.intro (fun h1 => ?_) (fun h1 => ?_)
 ·have h1 : (!hasL x.op 64) = true := h1
  exact ⟨rb (by rw [h1]; rfl),(Below.refl _ w).drew⟩
 ·have h1 : (!hasL x.op 64) = false := h1
  rw [h1,Bool.false_or]
  refine ⟨_,cells_at (cells_block hd.b) (i := 0) rfl,?_⟩
  refine ⟨_,cells_at hd.cells (i := 9) rfl,?_⟩
  refine And.intro (fun h2 => ?_) (fun h2 => ?_)
  ·have h2 : (1 : Int) ≤ x.skip.toNat := of_decide_eq_true h2
   refine ⟨_,cells_at (cells_block hd.b) (i := 0) rfl,?_⟩
   refine ⟨_,cells_at hd.cells (i := 9) rfl,?_⟩
   refine ⟨_,wrap_u8_i64 _,?_⟩
   refine ⟨_,cells_at (cells_block hd.b) (i := 0) rfl,?_⟩
   refine ⟨_,cells_at hd.cells (i := 11) rfl,?_⟩
   refine ⟨rb ?_,(Below.refl _ w).drew⟩
   rw [decide_eq_true (p := 1 ≤ x.skip.toNat) (by omega),Bool.true_and,decide_eq_decide]
   omega
  ·have h2 : ¬ (1 : Int) ≤ x.skip.toNat := of_decide_eq_false h2
   refine ⟨rb ?_,(Below.refl _ w).drew⟩
   rw [decide_eq_false (p := 1 ≤ x.skip.toNat) (by omega)]; rfl
end
end Go.Proofs.YtkpcgpmimejimaaGreatDoor
namespace Go.Proofs.YtkpcgpmimejimaaGreatDoor
open Go.Vc Go.RowKit Go.Sei
def condFs (g bx : Nat) : List Value := [.func (.func 160) #[] #[.pointer (some ⟨bx,0,none⟩)],.func (.func 161) #[] #[.pointer (some ⟨bx,0,none⟩)],.func (.func 163) #[] #[.pointer (some ⟨bx,0,none⟩)],
 .func (.func 164) #[] #[.pointer (some ⟨bx,0,none⟩)],.func (.func 166) #[] #[.pointer (some ⟨bx,0,none⟩)],.func (.func 168) #[.pointer (some ⟨g,0,none⟩)] #[],.func (.func 169) #[.pointer (some ⟨g,0,none⟩)] #[],
 .func (.func 170) #[] #[.pointer (some ⟨bx,0,none⟩)]]
theorem conds_c {g : Nat} {w : World} : Calls Tryz.prog 142 #[.pointer (some ⟨g,0,none⟩)] w fun e w' => e = .returned (.slice (some ⟨w.heap.size + 1,0,none⟩) 8 8) ∧
  w'.heap[w.heap.size]? = some (.cells #[.pointer (some ⟨g,0,none⟩)] 237 (0,0)) ∧ w'.heap[w.heap.size + 1]? = some (.cells (condFs g w.heap.size).toArray 36 (0,0)) ∧ w'.heap.size = w.heap.size + 2 ∧ Below w.heap.size w w' := by
 refine calls_of_E (S := sg 14) (sgOk _) (args := [.pointer (some ⟨g,0,none⟩)]) Tryz.func142 rfl rfl (Nat.le_of_ble_eq_true rfl) rfl ?_
 obtain ⟨W,hW⟩ : ∃ W,W = w.alloc (.cells #[.pointer (some ⟨g,0,none⟩)] 237) := ⟨_,rfl⟩
 have hb : W.heap[w.heap.size]? = some (.cells #[.pointer (some ⟨g,0,none⟩)] 237 (0,0)) := by rw [hW]; exact hnew w _
 have hs : W.heap.size = w.heap.size + 1 := by rw [hW,World.size_alloc]
 have hbb : Below w.heap.size w W := by rw [hW]; exact (Below.refl _ w).alloc (Nat.le_refl _) _
 refine ⟨_,cells_at (cells_block (hnew w _)) (i := 0) rfl,?_⟩
 refine ⟨_,cells_at (cells_block (hnew w _)) (i := 0) rfl,?_⟩
 refine ⟨⟨by decide,by decide,rfl⟩,condFs g w.heap.size,rfl,?_⟩
 have hs1 := World.size_alloc w (.cells #[.pointer (some ⟨g,0,none⟩)] 237)
 refine ⟨?_,?_,?_,?_,?_⟩
 ·show Ending.returned (.slice (some ⟨(w.alloc (.cells #[.pointer (some ⟨g,0,none⟩)] 237)).heap.size,0,none⟩) 8 8) = _
  rw [hs1]
 ·exact hold _ (hnew w _)
 ·rw [← hs1]; exact hnew _ _
 ·rw [World.size_alloc,World.size_alloc]
 ·exact ((Below.refl _ w).alloc (Nat.le_refl _) _).alloc (by simp) _
structure ThI (X : World) (L : Nat) (x : InsD) (locs after : Nat) : Prop where
 c : X.heap[L]? = some (.cells (spC x locs after).toArray 213 (0,0))
 b : X.heap[L + 1]? = some (.cells #[.pointer (some ⟨L,0,none⟩)] 237 (0,0))
 s : X.heap[L + 2]? = some (.cells (condFs L (L + 1)).toArray 36 (0,0))
theorem ThI.below {X Y : World} {L : Nat} {x : InsD} {locs after : Nat} (h : ThI X L x locs after) (hb : Below X.heap.size X Y) : ThI Y L x locs after := ⟨block_below hb h.c,block_below hb h.b,block_below hb h.s⟩
def ins0 : InsD := ⟨0,0,0,false,0,false,0,0,0,0⟩
theorem all_take {l : List Bool} : ∀ {n : Nat},(∀ j,j < n → l[j]? = some true) → n = l.length → l.all id = true := by
 intro n h e
 rw [List.all_eq_true]
 intro b hb
 obtain ⟨j,hj,rfl⟩ := List.getElem_of_mem hb
 have := h j (by omega)
 rw [List.getElem?_eq_getElem hj] at this
 exact Option.some.inj this
theorem all_no {l : List Bool} {j : Nat} (h : l[j]? = some false) : l.all id = false := by
 rw [List.all_eq_false]
 obtain ⟨hj,e⟩ := List.getElem?_eq_some_iff.1 h
 exact ⟨l[j],List.getElem_mem _,by rw [e]; decide⟩
theorem fin_no {l : List InsD} {k locs : Nat} (hkl : k < l.length) {i : Nat} (h : (insC l[k] locs (l.length - 1 - k))[i]? = some false) {w X : World} (hb : Below w.heap.size w X) :
  Ending.returned (.bool false) = .returned (.bool (threadB l locs)) ∧ Below w.heap.size w X := by
 refine ⟨rb ?_,hb⟩
 symm
 unfold threadB
 rw [Bool.and_eq_false_iff]
 refine .inr ?_
 rw [List.all_eq_false]
 refine ⟨k,List.mem_range.2 hkl,?_⟩
 rw [List.getElem?_eq_getElem hkl]
 show ¬ insB l[k] locs (l.length - 1 - k) = true
 unfold insB
 rw [all_no h]; simp
theorem Thread_c {p : Option Addr} {cap locs : Nat} {l : List InsD} {w : World} (hl : SlR insE w p l) (hG : GlobC w) (hn : l.length ≤ 140737488351232) :
  Calls Tryz.prog 122 #[.slice p l.length cap,i64 locs] w fun e w' => e = .returned (.bool (threadB l locs)) ∧ Below w.heap.size w w' := by
 refine calls_of_E (S := sg 43) (sgOk _) (args := [.slice p l.length cap,i64 locs]) Tryz.func122 rfl rfl (Nat.le_of_ble_eq_true rfl) rfl ?_
 obtain ⟨L,hL⟩ : ∃ L,L = w.heap.size := ⟨_,rfl⟩
 refine And.intro (fun h => ?_) (fun h => ?_)
 ·have h : (12 : Int) < l.length := of_decide_eq_true h
  exact ⟨rb (by unfold threadB; rw [decide_eq_false (by omega)]; rfl),Below.refl _ _⟩
 have h12 : ¬ (12 : Int) < l.length := of_decide_eq_false h
 refine ⟨spC ins0 locs 0,rfl,?_⟩
 refine store_new (X := w) (v := .agg (spC ins0 locs 0).toArray) (ttOk.get 213 _ rfl) rfl rfl rfl fun V hbV fV sV => ?_
 refine Calls.mono conds_c ?_
 rintro e W0 ⟨rfl,hbx,hsl,hsz,hb0⟩
 rw [sV,← hL] at hsz hbx hsl
 have hI0 : ThI W0 L ins0 locs 0 := ⟨hL ▸ block_below hb0 fV,hbx,hsl⟩
 have hbw : Below w.heap.size w W0 := hbV.trans (hb0.mono hbV.size)
 have p1 : some (Value.pointer (some ⟨w.heap.size,0,none⟩)) = some (Value.pointer (some ⟨L,0,none⟩)) := by rw [hL]
 have p2 : some (Value.slice (some ⟨V.heap.size + 1,0,none⟩) 8 8) = some (Value.slice (some ⟨L + 2,0,none⟩) 8 8) := by rw [sV,hL]
 clear hbx hsl fV sV hb0 hbV
 refine ⟨Nat,fun k => ⟨[(0,.slice p l.length cap),(1,i64 locs),(5,.pointer (some ⟨L,0,none⟩)),(6,.slice (some ⟨L + 2,0,none⟩) 8 8),(17,.slice p l.length cap),(18,i64 l.length),(19,i64 (k : Nat))],[]⟩,
  fun k X => k ≤ l.length ∧ (∀ i,i < k → ∀ x,l[i]? = some x → insB x locs (l.length - 1 - i) = true) ∧ (∃ x aft,ThI X L x locs aft) ∧ Below w.heap.size w X,fun k => l.length - k,0,
  ⟨.cons rfl (.cons rfl (.cons p1 (.cons p2 (.cons rfl (.cons rfl (.cons rfl .nil)))))),rfl⟩,⟨Nat.zero_le _,fun i hi => by omega,⟨ins0,0,hI0⟩,hbw⟩,?_⟩
 rintro k X ⟨hk,hdone,⟨x0,a0,hI⟩,hbX⟩
 dsimp only at hk hdone ⊢
 refine And.intro (fun hc => ?_) (fun hc => ?_)
 ·have hc : (k : Int) < (l.length : Int) := of_decide_eq_true hc
  have hkl : k < l.length := by omega
  obtain ⟨b,o,rfl,hbl,hat⟩ := hl.at hkl
  refine ⟨k,rfl,hkl,?_⟩
  have hx := hat k hkl
  refine ⟨insE.enc l[k],rfl,cells_belowB hbX hbl hx,Nat.lt_of_lt_of_le hbl hbX.size,?_⟩
  refine store_new (X := X) (v := .agg (insE.enc l[k]).toArray) (ttOk.get 69 _ rfl) rfl rfl rfl fun Y hbY fY sY => ?_
  refine ⟨insE.enc l[k],rfl,cells_block fY,hlt fY,?_⟩
  refine ⟨((l.length - 1 : Nat) : Int),(wrap_i64 (by omega)).trans (by omega),?_⟩
  refine ⟨((l.length - 1 - k : Nat) : Int),(wrap_i64 (by omega)).trans (by omega),?_⟩
  have hY := hI.below hbY
  refine store_part (ttOk.get 69 _ rfl) hY.c (o := 0) (v := .agg (insE.enc l[k]).toArray) rfl (by show 0 + 10 ≤ 12; omega) rfl fun Z fZ gZ sZ => ?_
  refine store_part (ttOk.get 3 _ rfl) fZ (o := 11) (v := i64 (l.length - 1 - k : Nat)) rfl (by show 11 + 1 ≤ 12; omega) rfl fun U fU gU sU => ?_
  have hIU : ThI U L l[k] locs (l.length - 1 - k) := ⟨fU,(gU.block _ (by have := hlt hY.b; omega) (by simp)).trans ((gZ.block _ (hlt hY.b) (by simp)).trans hY.b),(gU.block _ (by have := hlt hY.s; omega) (by simp)).trans ((gZ.block _ (hlt hY.s) (by simp)).trans hY.s)⟩
  have hbU : Below w.heap.size w U := by
   have h1 : Below w.heap.size w Y := hbX.trans (hbY.mono hbX.size)
   have h2 : ∀ (A B : World),Below w.heap.size w A → A.grownBy B (some L) → Below w.heap.size w B := fun A B ha hg => ha.trans ⟨hg.os,hg.tape,hg.output,hg.size,fun j hj => hg.block j (Nat.lt_of_lt_of_le hj ha.size) (by simp; omega)⟩
   exact h2 _ _ (h2 _ _ h1 gZ) gU
  refine ⟨Nat,fun j => ⟨[(0,.slice (some ⟨b,o,none⟩) l.length cap),(1,i64 locs),(5,.pointer (some ⟨L,0,none⟩)),(6,.slice (some ⟨L + 2,0,none⟩) 8 8),(17,.slice (some ⟨b,o,none⟩) l.length cap),(18,i64 l.length),(19,i64 (k : Nat)),(32,.slice (some ⟨L + 2,0,none⟩) 8 8),(33,i64 8),(34,i64 (j : Nat))],[]⟩,
   fun j X => j ≤ 8 ∧ (∀ i,i < j → (insC l[k] locs (l.length - 1 - k))[i]? = some true) ∧ ThI X L l[k] locs (l.length - 1 - k) ∧ Below w.heap.size w X,fun j => 8 - j,0,
   ⟨.cons rfl (.cons rfl (.cons rfl (.cons rfl (.cons rfl (.cons rfl (.cons rfl (.cons rfl (.cons rfl (.cons rfl .nil))))))))),rfl⟩,⟨Nat.zero_le _,fun i hi => by omega,hIU,hbU⟩,?_⟩
  clear hIU hbU
  rintro j X2 ⟨hj,hpre,hI2,hb2⟩
  dsimp only at hj hpre ⊢
  have hG2 : GlobC X2 := hG.below hb2
  have hS : SpV X2 L (L + 1) l[k] locs (l.length - 1 - k) := ⟨hI2.c,hI2.b,hG2⟩
  refine And.intro (fun hc2 => ?_) (fun hc2 => ?_)
  ·have hc2 : (j : Int) < 8 := of_decide_eq_true hc2
   refine ⟨j,rfl,(by omega),?_⟩
   have ho : 0 < j → l[k].op.toNat ≤ 8 := fun h0 => by
    have := Option.some.inj (hpre 0 h0)
    rw [Bool.and_eq_true] at this
    exact of_decide_eq_true this.2
   have hat2 : ∀ {v : Value},(condFs L (L + 1))[j]? = some v → X2.cell? ⟨L + 2,0 + j * 1,none⟩ = some v := fun hv => by
    have := cells_at (cells_block hI2.s) (i := j) (by simpa using hv)
    rw [Nat.mul_one]; exact this
   have hcs : j = 0 ∨ j = 1 ∨ j = 2 ∨ j = 3 ∨ j = 4 ∨ j = 5 ∨ j = 6 ∨ j = 7 := by omega
   rcases hcs with rfl | rfl | rfl | rfl | rfl | rfl | rfl | rfl
   ·refine ⟨_,hat2 rfl,?_⟩
    refine Calls.mono (cond1_c hS) ?_
    rintro e W ⟨rfl,hbW⟩
    have hI3 := hI2.below hbW
    refine And.intro (fun hb => ?_) (fun hb => ?_)
    ·have hb : (!((insC l[k] locs (l.length - 1 - k))[0]'(by show 0 < 8; decide))) = true := hb
     have hb : (insC l[k] locs (l.length - 1 - k))[0]? = some false := by rw [List.getElem?_eq_getElem (by show 0 < 8; decide)]; exact congrArg some (by rw [← Bool.not_not ((insC l[k] locs (l.length - 1 - k))[0]'(by show 0 < 8; decide)),hb]; rfl)
     exact fin_no hkl hb (hb2.trans (hbW.mono hb2.size))
    ·have hb : (!((insC l[k] locs (l.length - 1 - k))[0]'(by show 0 < 8; decide))) = false := hb
     have hb : (insC l[k] locs (l.length - 1 - k))[0]? = some true := by rw [List.getElem?_eq_getElem (by show 0 < 8; decide)]; exact congrArg some (by rw [← Bool.not_not ((insC l[k] locs (l.length - 1 - k))[0]'(by show 0 < 8; decide)),hb]; rfl)
     refine ⟨_,(wrap_i64 (by omega)).trans rfl,?_⟩
     refine ⟨1,⟨.cons rfl (.cons rfl (.cons rfl (.cons rfl (.cons rfl (.cons rfl (.cons rfl (.cons rfl (.cons rfl (.cons rfl .nil))))))))),rfl⟩,⟨by omega,fun i hi => ?_,hI3,hb2.trans (hbW.mono hb2.size)⟩,by decide⟩
     by_cases hik : i = 0
     ·rw [hik]; exact hb
     ·exact hpre i (by omega)
   ·refine ⟨_,hat2 rfl,?_⟩
    refine Calls.mono (cond2_c hS (ho (by omega))) ?_
    rintro e W ⟨rfl,hbW⟩
    have hI3 := hI2.below hbW
    refine And.intro (fun hb => ?_) (fun hb => ?_)
    ·have hb : (!((insC l[k] locs (l.length - 1 - k))[1]'(by show 1 < 8; decide))) = true := hb
     have hb : (insC l[k] locs (l.length - 1 - k))[1]? = some false := by rw [List.getElem?_eq_getElem (by show 1 < 8; decide)]; exact congrArg some (by rw [← Bool.not_not ((insC l[k] locs (l.length - 1 - k))[1]'(by show 1 < 8; decide)),hb]; rfl)
     exact fin_no hkl hb (hb2.trans (hbW.mono hb2.size))
    ·have hb : (!((insC l[k] locs (l.length - 1 - k))[1]'(by show 1 < 8; decide))) = false := hb
     have hb : (insC l[k] locs (l.length - 1 - k))[1]? = some true := by rw [List.getElem?_eq_getElem (by show 1 < 8; decide)]; exact congrArg some (by rw [← Bool.not_not ((insC l[k] locs (l.length - 1 - k))[1]'(by show 1 < 8; decide)),hb]; rfl)
     refine ⟨_,(wrap_i64 (by omega)).trans rfl,?_⟩
     refine ⟨2,⟨.cons rfl (.cons rfl (.cons rfl (.cons rfl (.cons rfl (.cons rfl (.cons rfl (.cons rfl (.cons rfl (.cons rfl .nil))))))))),rfl⟩,⟨by omega,fun i hi => ?_,hI3,hb2.trans (hbW.mono hb2.size)⟩,by decide⟩
     by_cases hik : i = 1
     ·rw [hik]; exact hb
     ·exact hpre i (by omega)
   ·refine ⟨_,hat2 rfl,?_⟩
    refine Calls.mono (cond3_c hS) ?_
    rintro e W ⟨rfl,hbW⟩
    have hI3 := hI2.below hbW
    refine And.intro (fun hb => ?_) (fun hb => ?_)
    ·have hb : (!((insC l[k] locs (l.length - 1 - k))[2]'(by show 2 < 8; decide))) = true := hb
     have hb : (insC l[k] locs (l.length - 1 - k))[2]? = some false := by rw [List.getElem?_eq_getElem (by show 2 < 8; decide)]; exact congrArg some (by rw [← Bool.not_not ((insC l[k] locs (l.length - 1 - k))[2]'(by show 2 < 8; decide)),hb]; rfl)
     exact fin_no hkl hb (hb2.trans (hbW.mono hb2.size))
    ·have hb : (!((insC l[k] locs (l.length - 1 - k))[2]'(by show 2 < 8; decide))) = false := hb
     have hb : (insC l[k] locs (l.length - 1 - k))[2]? = some true := by rw [List.getElem?_eq_getElem (by show 2 < 8; decide)]; exact congrArg some (by rw [← Bool.not_not ((insC l[k] locs (l.length - 1 - k))[2]'(by show 2 < 8; decide)),hb]; rfl)
     refine ⟨_,(wrap_i64 (by omega)).trans rfl,?_⟩
     refine ⟨3,⟨.cons rfl (.cons rfl (.cons rfl (.cons rfl (.cons rfl (.cons rfl (.cons rfl (.cons rfl (.cons rfl (.cons rfl .nil))))))))),rfl⟩,⟨by omega,fun i hi => ?_,hI3,hb2.trans (hbW.mono hb2.size)⟩,by decide⟩
     by_cases hik : i = 2
     ·rw [hik]; exact hb
     ·exact hpre i (by omega)
   ·refine ⟨_,hat2 rfl,?_⟩
    refine Calls.mono (cond4_c hS (ho (by omega))) ?_
    rintro e W ⟨rfl,hbW⟩
    have hI3 := hI2.below hbW
    refine And.intro (fun hb => ?_) (fun hb => ?_)
    ·have hb : (!((insC l[k] locs (l.length - 1 - k))[3]'(by show 3 < 8; decide))) = true := hb
     have hb : (insC l[k] locs (l.length - 1 - k))[3]? = some false := by rw [List.getElem?_eq_getElem (by show 3 < 8; decide)]; exact congrArg some (by rw [← Bool.not_not ((insC l[k] locs (l.length - 1 - k))[3]'(by show 3 < 8; decide)),hb]; rfl)
     exact fin_no hkl hb (hb2.trans (hbW.mono hb2.size))
    ·have hb : (!((insC l[k] locs (l.length - 1 - k))[3]'(by show 3 < 8; decide))) = false := hb
     have hb : (insC l[k] locs (l.length - 1 - k))[3]? = some true := by rw [List.getElem?_eq_getElem (by show 3 < 8; decide)]; exact congrArg some (by rw [← Bool.not_not ((insC l[k] locs (l.length - 1 - k))[3]'(by show 3 < 8; decide)),hb]; rfl)
     refine ⟨_,(wrap_i64 (by omega)).trans rfl,?_⟩
     refine ⟨4,⟨.cons rfl (.cons rfl (.cons rfl (.cons rfl (.cons rfl (.cons rfl (.cons rfl (.cons rfl (.cons rfl (.cons rfl .nil))))))))),rfl⟩,⟨by omega,fun i hi => ?_,hI3,hb2.trans (hbW.mono hb2.size)⟩,by decide⟩
     by_cases hik : i = 3
     ·rw [hik]; exact hb
     ·exact hpre i (by omega)
   ·refine ⟨_,hat2 rfl,?_⟩
    refine Calls.mono (cond5_c hS) ?_
    rintro e W ⟨rfl,hbW⟩
    have hI3 := hI2.below hbW
    refine And.intro (fun hb => ?_) (fun hb => ?_)
    ·have hb : (!((insC l[k] locs (l.length - 1 - k))[4]'(by show 4 < 8; decide))) = true := hb
     have hb : (insC l[k] locs (l.length - 1 - k))[4]? = some false := by rw [List.getElem?_eq_getElem (by show 4 < 8; decide)]; exact congrArg some (by rw [← Bool.not_not ((insC l[k] locs (l.length - 1 - k))[4]'(by show 4 < 8; decide)),hb]; rfl)
     exact fin_no hkl hb (hb2.trans (hbW.mono hb2.size))
    ·have hb : (!((insC l[k] locs (l.length - 1 - k))[4]'(by show 4 < 8; decide))) = false := hb
     have hb : (insC l[k] locs (l.length - 1 - k))[4]? = some true := by rw [List.getElem?_eq_getElem (by show 4 < 8; decide)]; exact congrArg some (by rw [← Bool.not_not ((insC l[k] locs (l.length - 1 - k))[4]'(by show 4 < 8; decide)),hb]; rfl)
     refine ⟨_,(wrap_i64 (by omega)).trans rfl,?_⟩
     refine ⟨5,⟨.cons rfl (.cons rfl (.cons rfl (.cons rfl (.cons rfl (.cons rfl (.cons rfl (.cons rfl (.cons rfl (.cons rfl .nil))))))))),rfl⟩,⟨by omega,fun i hi => ?_,hI3,hb2.trans (hbW.mono hb2.size)⟩,by decide⟩
     by_cases hik : i = 4
     ·rw [hik]; exact hb
     ·exact hpre i (by omega)
   ·refine ⟨_,hat2 rfl,?_⟩
    refine Calls.mono (modeRight_c hS.cells) ?_
    rintro e _ ⟨rfl,rfl⟩
    have hbW : Below X2.heap.size X2 X2 := Below.refl _ _
    have hI3 := hI2
    refine And.intro (fun hb => ?_) (fun hb => ?_)
    ·have hb : (!((insC l[k] locs (l.length - 1 - k))[5]'(by show 5 < 8; decide))) = true := hb
     have hb : (insC l[k] locs (l.length - 1 - k))[5]? = some false := by rw [List.getElem?_eq_getElem (by show 5 < 8; decide)]; exact congrArg some (by rw [← Bool.not_not ((insC l[k] locs (l.length - 1 - k))[5]'(by show 5 < 8; decide)),hb]; rfl)
     exact fin_no hkl hb (hb2.trans (hbW.mono hb2.size))
    ·have hb : (!((insC l[k] locs (l.length - 1 - k))[5]'(by show 5 < 8; decide))) = false := hb
     have hb : (insC l[k] locs (l.length - 1 - k))[5]? = some true := by rw [List.getElem?_eq_getElem (by show 5 < 8; decide)]; exact congrArg some (by rw [← Bool.not_not ((insC l[k] locs (l.length - 1 - k))[5]'(by show 5 < 8; decide)),hb]; rfl)
     refine ⟨_,(wrap_i64 (by omega)).trans rfl,?_⟩
     refine ⟨6,⟨.cons rfl (.cons rfl (.cons rfl (.cons rfl (.cons rfl (.cons rfl (.cons rfl (.cons rfl (.cons rfl (.cons rfl .nil))))))))),rfl⟩,⟨by omega,fun i hi => ?_,hI3,hb2.trans (hbW.mono hb2.size)⟩,by decide⟩
     by_cases hik : i = 5
     ·rw [hik]; exact hb
     ·exact hpre i (by omega)
   ·refine ⟨_,hat2 rfl,?_⟩
    refine Calls.mono (fnRight_c hS.cells) ?_
    rintro e _ ⟨rfl,rfl⟩
    have hbW : Below X2.heap.size X2 X2 := Below.refl _ _
    have hI3 := hI2
    refine And.intro (fun hb => ?_) (fun hb => ?_)
    ·have hb : (!((insC l[k] locs (l.length - 1 - k))[6]'(by show 6 < 8; decide))) = true := hb
     have hb : (insC l[k] locs (l.length - 1 - k))[6]? = some false := by rw [List.getElem?_eq_getElem (by show 6 < 8; decide)]; exact congrArg some (by rw [← Bool.not_not ((insC l[k] locs (l.length - 1 - k))[6]'(by show 6 < 8; decide)),hb]; rfl)
     exact fin_no hkl hb (hb2.trans (hbW.mono hb2.size))
    ·have hb : (!((insC l[k] locs (l.length - 1 - k))[6]'(by show 6 < 8; decide))) = false := hb
     have hb : (insC l[k] locs (l.length - 1 - k))[6]? = some true := by rw [List.getElem?_eq_getElem (by show 6 < 8; decide)]; exact congrArg some (by rw [← Bool.not_not ((insC l[k] locs (l.length - 1 - k))[6]'(by show 6 < 8; decide)),hb]; rfl)
     refine ⟨_,(wrap_i64 (by omega)).trans rfl,?_⟩
     refine ⟨7,⟨.cons rfl (.cons rfl (.cons rfl (.cons rfl (.cons rfl (.cons rfl (.cons rfl (.cons rfl (.cons rfl (.cons rfl .nil))))))))),rfl⟩,⟨by omega,fun i hi => ?_,hI3,hb2.trans (hbW.mono hb2.size)⟩,by decide⟩
     by_cases hik : i = 6
     ·rw [hik]; exact hb
     ·exact hpre i (by omega)
   ·refine ⟨_,hat2 rfl,?_⟩
    refine Calls.mono (cond8_c hS (ho (by omega))) ?_
    rintro e W ⟨rfl,hbW⟩
    have hI3 := hI2.below hbW
    refine And.intro (fun hb => ?_) (fun hb => ?_)
    ·have hb : (!((insC l[k] locs (l.length - 1 - k))[7]'(by show 7 < 8; decide))) = true := hb
     have hb : (insC l[k] locs (l.length - 1 - k))[7]? = some false := by rw [List.getElem?_eq_getElem (by show 7 < 8; decide)]; exact congrArg some (by rw [← Bool.not_not ((insC l[k] locs (l.length - 1 - k))[7]'(by show 7 < 8; decide)),hb]; rfl)
     exact fin_no hkl hb (hb2.trans (hbW.mono hb2.size))
    ·have hb : (!((insC l[k] locs (l.length - 1 - k))[7]'(by show 7 < 8; decide))) = false := hb
     have hb : (insC l[k] locs (l.length - 1 - k))[7]? = some true := by rw [List.getElem?_eq_getElem (by show 7 < 8; decide)]; exact congrArg some (by rw [← Bool.not_not ((insC l[k] locs (l.length - 1 - k))[7]'(by show 7 < 8; decide)),hb]; rfl)
     refine ⟨_,(wrap_i64 (by omega)).trans rfl,?_⟩
     refine ⟨8,⟨.cons rfl (.cons rfl (.cons rfl (.cons rfl (.cons rfl (.cons rfl (.cons rfl (.cons rfl (.cons rfl (.cons rfl .nil))))))))),rfl⟩,⟨by omega,fun i hi => ?_,hI3,hb2.trans (hbW.mono hb2.size)⟩,by decide⟩
     by_cases hik : i = 7
     ·rw [hik]; exact hb
     ·exact hpre i (by omega)
  ·have hc2 : ¬ (j : Int) < 8 := of_decide_eq_false hc2
   obtain rfl : j = 8 := by omega
   have hok : insB l[k] locs (l.length - 1 - k) = true := all_take hpre rfl
   refine ⟨((k + 1 : Nat) : Int),(wrap_i64 (by omega)).trans (by omega),?_⟩
   refine ⟨k + 1,⟨.cons rfl (.cons rfl (.cons rfl (.cons rfl (.cons rfl (.cons rfl (.cons rfl .nil)))))),rfl⟩,⟨hkl,fun i hi x hlx => ?_,⟨_,_,hI2⟩,hb2⟩,by show l.length - (k + 1) < l.length - k; omega⟩
   by_cases hik : i = k
   ·subst hik
    rw [List.getElem?_eq_getElem hkl] at hlx
    rw [← Option.some.inj hlx]; exact hok
   ·exact hdone i (by omega) x hlx
 ·have hc : ¬ (k : Int) < (l.length : Int) := of_decide_eq_false hc
  obtain rfl : k = l.length := by omega
  refine ⟨rb ?_,hbX⟩
  unfold threadB
  rw [decide_eq_true (by omega),Bool.true_and,Eq.comm,List.all_eq_true]
  intro i hi
  have hi : i < l.length := List.mem_range.1 hi
  rw [List.getElem?_eq_getElem hi]
  exact hdone i hi _ (List.getElem?_eq_getElem hi)
end Go.Proofs.YtkpcgpmimejimaaGreatDoor
namespace Go.Proofs.YtkpcgpmimejimaaGreatDoor
open Go.Vc Go.RowKit Go.Sei
structure GlobE (w : World) : Prop where
 c : GlobC w
 t64 : Tz64M w
 t32 : Tz32M w
theorem GlobE.below {w w2 : World} (h : GlobE w) (hb : Below w.heap.size w w2) : GlobE w2 := ⟨h.c.below hb,h.t64.below hb,h.t32.below hb⟩
abbrev PthR := PathD × (Option Addr × Nat) × (Option Addr × Nat) × (Option Addr × Nat) × (Option Addr × Nat)
def pthE : Enc PthR := ⟨fun x => pthC x.1 x.2.1.1 x.2.1.2 x.2.2.1.1 x.2.2.1.2 x.2.2.2.1.1 x.2.2.2.1.2 x.2.2.2.2.1 x.2.2.2.2.2,12,fun _ => pthC_len ..,by decide,fun a u hu => List.all_eq_true.1 (pthC_one ..) u hu⟩
structure RowIn {α : Type} (E : Enc α) (T : TypeId) (B : Nat) (F : Nat → Prop) (Y : World) (q : Option Addr) (c : Nat) (l : List α) : Prop where
 own : OwnS E T B Y q c l
 inF : ∀ a,q = some a → F a.block
section
variable {α : Type} {E : Enc α} {T : TypeId} {B : Nat} {F G : Nat → Prop} {Y Z : World} {q : Option Addr} {c : Nat} {l : List α}
theorem own_bl (h : OwnS E T B Y q c l) {a : Addr} (ha : q = some a) : B ≤ a.block ∧ a.block < Y.heap.size ∧ ∃ cur,Y.heap[a.block]? = some (.cells cur T (0,0)) := by
 rcases h.inv with ⟨h1,_⟩ | ⟨g,cur,h1,h2,h3,_⟩
 ·rw [h1] at ha; cases ha
 ·rw [h1] at ha; cases ha; exact ⟨h2,hlt h3,cur,h3⟩
theorem RowIn.same (h : RowIn E T B F Y q c l) (hs : ∀ k,F k → k < Y.heap.size → Z.heap[k]? = Y.heap[k]?) (hG : ∀ k,F k → G k) : RowIn E T B G Z q c l :=
 ⟨h.own.same fun a ha => hs _ (h.inF a ha) (own_bl h.own ha).2.1,fun a ha => hG _ (h.inF a ha)⟩
end
def PthIn (B : Nat) (F : Nat → Prop) (Y : World) (x : PthR) : Prop := RowIn evE 52 B F Y x.2.1.1 x.2.1.2 x.1.ev ∧ RowIn prE 37 B F Y x.2.2.1.1 x.2.2.1.2 x.1.data ∧ RowIn prE 37 B F Y x.2.2.2.1.1 x.2.2.2.1.2 x.1.ctrl ∧ RowIn prE 37 B F Y x.2.2.2.2.1 x.2.2.2.2.2 x.1.rmw
theorem PthIn.same {B : Nat} {F G : Nat → Prop} {Y Z : World} {x : PthR} (h : PthIn B F Y x) (hs : ∀ k,F k → k < Y.heap.size → Z.heap[k]? = Y.heap[k]?) (hG : ∀ k,F k → G k) : PthIn B G Z x :=
 ⟨h.1.same hs hG,h.2.1.same hs hG,h.2.2.1.same hs hG,h.2.2.2.same hs hG⟩
theorem grown_then {W A B : World} {r : Option Nat} (h : W.grownBy A r) (hb : Below W.heap.size A B) : W.grownBy B r :=
 ⟨hb.os.trans h.os,hb.tape.trans h.tape,hb.output.trans h.output,Nat.le_trans h.size hb.size,fun k hk hne => (hb.block k hk).trans (h.block k hk hne)⟩
theorem valid_c {q : Option Addr} {cap : Nat} {l : List InsD} {w : World} (hl : SlR insE w q l) (hG : GlobC w) (hn : l.length ≤ 140737488351232) :
  Calls Tryz.prog 129 #[.slice q l.length cap] w fun e w' => e = .returned (.bool (threadB l 6)) ∧ Below w.heap.size w w' := by
 refine calls_of_E (S := sg 5) (sgOk _) (args := [.slice q l.length cap]) Tryz.func129 rfl rfl (Nat.le_of_ble_eq_true rfl) rfl ?_
 refine Calls.mono (Thread_c (locs := 6) hl hG hn) ?_
 rintro e X ⟨rfl,hb⟩
 exact ⟨rfl,hb⟩
def JPa (B n0 L : Nat) (W : World) (pre : List RunD) (F : Nat → Prop) (Y : World) : Prop :=
 (n0 ≤ Y.heap.size ∧ F L ∧ ∀ k,F k → k < Y.heap.size) ∧ (∃ (xs : List PthR) (p : Option Addr) (c : Nat),Y.heap[L]? = some (.cells [.slice p xs.length c].toArray 158 (0,0)) ∧ RowIn pthE 165 B F Y p c xs ∧ xs.map (·.1) = pre.map pathR ∧ ∀ x ∈ xs,PthIn n0 F Y x) ∧ Below B W Y
theorem JPa.iter {B n0 L : Nat} {W : World} (hB : B ≤ n0) (hn : n0 = W.heap.size) : JG n0 (fun _ => False) (JPa B n0 L W) := by
 refine ⟨?_,?_⟩
 ·rintro pre F A C ⟨⟨h1,h2,h3⟩,⟨xs,p,c,h4,h5,h6,h7⟩,h8⟩ hs
  have sf : ∀ k,F k → k < A.heap.size → C.heap[k]? = A.heap[k]? := fun k hk hl => hs.same k hl (.inr hk)
  refine ⟨⟨Nat.le_trans h1 hs.size,h2,fun k hk => Nat.lt_of_lt_of_le (h3 k hk) hs.size⟩,⟨xs,p,c,(sf L h2 (h3 L h2)).trans h4,h5.same sf fun k h => h,h6,fun x hx => (h7 x hx).same sf fun k h => h⟩,h8.trans ⟨hs.os,hs.tape,hs.output,hs.size,fun k hk => hs.same k (by omega) (.inl ⟨by omega,fun h => h⟩)⟩⟩
 ·rintro pre F A k ⟨⟨_,_,h3⟩,_⟩ hk
  exact ⟨h3 k hk,fun h => h⟩
def PthO (B : Nat) (Y : World) (x : PthR) : Prop := OwnS evE 52 B Y x.2.1.1 x.2.1.2 x.1.ev ∧ OwnS prE 37 B Y x.2.2.1.1 x.2.2.1.2 x.1.data ∧ OwnS prE 37 B Y x.2.2.2.1.1 x.2.2.2.1.2 x.1.ctrl ∧ OwnS prE 37 B Y x.2.2.2.2.1 x.2.2.2.2.2 x.1.rmw
theorem PthO.mono {B B' : Nat} {Y : World} {x : PthR} (h : PthO B Y x) (hB : B' ≤ B) : PthO B' Y x := ⟨OwnS.lower h.1 hB,OwnS.lower h.2.1 hB,OwnS.lower h.2.2.1 hB,OwnS.lower h.2.2.2 hB⟩
section
variable {l : List InsD} {vals : List UInt8} {q p : Option Addr} {cap cd : Nat} {w : World}
theorem Paths_c (hl : SlR insE w q l) (hp : SlR byteE w p vals) (hv1 : 1 ≤ vals.length) (hv12 : vals.length ≤ 12) (hvs : srt8 vals = true) (hx : ∀ x ∈ l,ExOk x) (hok : threadB l 6 = true) (hG : GlobE w) (hR : ∀ R ∈ endsR l (ded vals),R.many ≤ 24 ∧ RunB R) (hm : (endsR l (ded vals)).length ≤ 4096) (hqb : ∀ a,q = some a → a.block < w.heap.size) (hdl : (ded vals).length ≤ 12) :
  Calls Tryz.prog 103 #[.slice q l.length cap,.slice p vals.length cd,i64 4096] w fun e w' => (∃ (xs : List PthR) (p' : Option Addr) (c' : Nat),e = .returned (.tuple #[.slice p' xs.length c',i64 0]) ∧ xs.map (·.1) = (endsR l (ded vals)).map pathR ∧ OwnS pthE 165 w.heap.size w' p' c' xs ∧ ∀ x ∈ xs,PthO w.heap.size w' x) ∧ Below w.heap.size w w' := by
 have h12 : l.length ≤ 12 := by
  unfold threadB at hok
  rw [Bool.and_eq_true,decide_eq_true_eq] at hok
  exact hok.1
 refine calls_of_M (S := sg 45) (sgOk _) (args := [.slice q l.length cap,.slice p vals.length cd,i64 4096]) (.c .p (.s .p (.c .p (.c .p (.c .p (.c .p .p)))))) Tryz.func103 rfl rfl (Nat.le_of_ble_eq_true rfl) rfl ?_
 obtain ⟨L,hL⟩ : ∃ L,L = w.heap.size := ⟨_,rfl⟩
 refine ⟨Unit,fun _ => ⟨[(0,.slice q l.length cap),(1,.slice p vals.length cd),(5,AtR L),(6,AtR (L + 1)),(7,AtR (L + 2))],[]⟩,fun _ X => X.heap[L]? = some (.cells #[i64 4096] 3 (0,0)) ∧ X.heap[L + 1]? = some (.cells #[.slice none 0 0] 158 (0,0)) ∧ X.heap[L + 2]? = some (.cells #[i64 0] 40 (0,0)) ∧ X.heap.size = L + 3 ∧ Below w.heap.size w X,?_,?_⟩
 ·have s1 := World.size_alloc w (.cells #[i64 4096] 3)
  have h2 := hnew (w.alloc (.cells #[i64 4096] 3)) (.cells #[.slice none 0 0] 158)
  have s2 := World.size_alloc (w.alloc (.cells #[i64 4096] 3)) (.cells #[.slice none 0 0] 158)
  have h3 := hnew ((w.alloc (.cells #[i64 4096] 3)).alloc (.cells #[.slice none 0 0] 158)) (.cells #[i64 0] 40)
  have s3 := World.size_alloc ((w.alloc (.cells #[i64 4096] 3)).alloc (.cells #[.slice none 0 0] 158)) (.cells #[i64 0] 40)
  rw [s1] at h2 s2
  rw [s2] at h3 s3
  refine ⟨(),⟨.cons rfl (.cons rfl (.cons (by rw [hL]; rfl) (.cons (by rw [hL,← s1]; rfl) (.cons (by rw [hL,← s2]; rfl) .nil)))),rfl⟩,?_,?_,?_,?_,?_⟩
  ·rw [hL]; exact hold _ (hold _ (hnew w _))
  ·rw [hL]; exact hold _ h2
  ·rw [hL]; exact h3
  ·rw [hL]; exact s3
  ·exact (((Below.refl _ w).alloc (Nat.le_refl _) _).alloc (by simp) _).alloc (by simp; omega) _
 rintro _ X ⟨f0,f1,f2,sX,hbX⟩
 refine ⟨_,cells_at (cells_block f0) (i := 0) rfl,?_⟩
 refine brF ?_
 refine ⟨_,cells_at (cells_block f0) (i := 0) rfl,?_⟩
 refine brF ?_
 refine Calls.mono (valid_c (hl.below hbX) (hG.c.below hbX) (by omega)) ?_
 rintro e Y ⟨rfl,hbY⟩
 rw [hok]
 refine brF ?_
 have hwY := hbX.trans (hbY.mono hbX.size)
 have f0 := block_below hbY f0
 have f1 := block_below hbY f1
 have f2 := block_below hbY f2
 have sY := hbY.size
 obtain ⟨D,hD⟩ : ∃ D,D = ded vals := ⟨_,rfl⟩
 rw [← hD] at hR hm hdl ⊢
 refine ⟨Option Addr × Nat,fun s => ⟨[(0,.slice q l.length cap),(1,.slice s.1 D.length s.2),(5,AtR L),(6,AtR (L + 1)),(7,AtR (L + 2))],[]⟩,fun s Z => OwnS byteE 5 (L + 3) Z s.1 s.2 D ∧ Below Y.heap.size Y Z,?_,?_⟩
 ·refine Calls.mono (distinct_c (hp.below hwY) hv1 hv12 hvs) ?_
  rintro e Z ⟨⟨d,cc,rfl,ho⟩,hbZ⟩
  rw [← hD] at ho
  exact ⟨(d,cc),⟨.cons rfl (.cons (by rw [hD]; rfl) (.cons rfl (.cons rfl (.cons rfl .nil)))),rfl⟩,OwnS.lower ho (by omega),hbZ⟩
 rintro ⟨d,cc⟩ Z ⟨oD,hbZ⟩
 dsimp only at oD ⊢
 have hwZ := hwY.trans (hbZ.mono hwY.size)
 have f0 := block_below hbZ f0
 have f1 := block_below hbZ f1
 have f2 := block_below hbZ f2
 have sZ := hbZ.size
 obtain ⟨N,hN⟩ : ∃ N,N = Z.heap.size := ⟨_,rfl⟩
 refine ⟨Unit,fun _ => ⟨[(0,.slice q l.length cap),(1,.slice d D.length cc),(5,AtR L),(6,AtR (L + 1)),(7,AtR (L + 2)),(8,AtR N)],[]⟩,fun _ V => V.heap[N]? = some (.cells [i64 0].toArray 3 (0,0)) ∧ V.heap.size = N + 1 ∧ Below Z.heap.size Z V,?_,?_⟩
 ·refine store_new (X := Z) (v := i64 0) (ttOk.get 3 _ rfl) rfl rfl rfl fun V hbV fV sV => ?_
  exact ⟨(),⟨.cons rfl (.cons rfl (.cons rfl (.cons rfl (.cons rfl (.cons (by rw [hN]; rfl) .nil))))),rfl⟩,by rw [hN]; exact fV,by rw [hN]; exact sV,hbV⟩
 rintro _ V ⟨fN,sV,hbV⟩
 have hwV := hwZ.trans (hbV.mono hwZ.size)
 have f0 := block_below hbV f0
 have f1 := block_below hbV f1
 have f2 := block_below hbV f2
 have dlt : ∀ a,d = some a → a.block < N := fun a ha => by rw [hN]; exact (own_bl oD ha).2.1
 have oD := oD.below hbV
 have hNZ : w.heap.size ≤ N := by rw [hN]; exact hwZ.size
 have hNL : L + 3 ≤ N := by omega
 obtain ⟨xs0,hxs0⟩ : ∃ xs0,xs0 = endsR l D := ⟨_,rfl⟩
 rw [← hxs0] at hR hm ⊢
 refine ⟨Nat,fun D1 => ⟨[(0,.slice q l.length cap),(1,.slice d D.length cc),(5,AtR L),(6,AtR (L + 1)),(7,AtR (L + 2)),(8,AtR N)],[{ target := .collected D1,args := #[] }]⟩,fun D1 U => U.heap[N]? = some (.cells #[i64 xs0.length] 3 (0,0)) ∧ U.heap[D1]? = some (.deferred (some [])) ∧ N < D1 ∧ V.grownBy U (some N),?_,?_⟩
 ·refine Calls.mono endsF_c ?_
  rintro e W ⟨rfl,fi,fd,sW,hbW⟩
  have hwW := hwV.trans (hbW.mono hwV.size)
  have fNW := block_below hbW fN
  have f0W := block_below hbW f0
  have qlt : ∀ a,q = some a → a.block < w.heap.size := hqb
  have hI := ends_c (q := q) (p := d) (hl.below hwW) (oD.below hbW).row fi fd (fun a ha => by have := qlt a ha; have := hwW.size; omega) (fun a ha => by have := dlt a ha; omega) h12 hx (by omega)
  rw [← hxs0] at hI
  refine rangeG (sgOk _) rfl (lb := #[AtR V.heap.size,AtR (V.heap.size + 1)]) rfl rfl hI (Nat.le_refl _) (fun k hk => ⟨?_,rfl⟩) (fun pre vs W ⟨R,b,_,h,_⟩ => by rw [h]; rfl) (by decide)
   (fun k => k = N) (fun pre F Y => F = (fun k => k = N) ∧ W.heap.size ≤ Y.heap.size ∧ Y.heap[N]? = some (.cells [i64 pre.length].toArray 3 (0,0)) ∧ W.grownBy Y (some N)) (fun _ _ _ _ => False) (fun k hk => ?_)
   (joG (F := fun k => k = N) (J := fun (pre : List RunD) Y => W.heap.size ≤ Y.heap.size ∧ Y.heap[N]? = some (.cells [i64 pre.length].toArray 3 (0,0)) ∧ W.grownBy Y (some N)) (fun k h => by omega) (fun s A h => h.1) (fun pre A B ⟨h1,h2,h3⟩ hb => ⟨Nat.le_trans h1 hb.size,below_old hb (by omega) h2,grown_then h3 hb⟩))
   (fun ex => ⟨fun _ _ _ _ h => h.elim,fun _ _ _ _ h => h.elim⟩) ⟨rfl,Nat.le_refl _,fNW,grown_refl _ _⟩ ?_ ?_ ?_
  ·rcases hk with ((rfl | rfl) | ⟨a,ha,rfl⟩ | ⟨a,ha,rfl⟩) | h
   ·omega
   ·omega
   ·have := qlt a ha; have := hwW.size; omega
   ·have := dlt a ha; omega
   ·exact h.elim
  ·rcases hk with (rfl | rfl) | ⟨a,ha,rfl⟩ | ⟨a,ha,rfl⟩
   ·omega
   ·omega
   ·have := qlt a ha; omega
   ·have := dlt a ha; omega
  ·rintro yl pre x vs F Y hyl hpre hJ ⟨R',b',_,rfl,_⟩ hfy hlo
   refine ⟨rfl,F,KeepsG.refl _ _,hJ,?_⟩
   rintro o Y2 hY2 ⟨rfl,h1,h2,h3⟩
   have hpl : pre.length < xs0.length := by
    obtain ⟨t,ht⟩ := hpre
    rw [← ht]
    simp only [List.length_append,List.length_cons]
    omega
   have g0 : Y2.heap[L]? = some (.cells #[i64 4096] 3 (0,0)) := (h3.block L (hlt f0W) (by simp; omega)).trans f0W
   refine ⟨_,cells_at (cells_block h2) (i := 0) rfl,?_⟩
   refine ⟨_,cells_at (cells_block g0) (i := 0) rfl,?_⟩
   refine brN (decide_eq_false (by omega)) ?_
   refine ⟨_,cells_at (cells_block h2) (i := 0) rfl,?_⟩
   refine ⟨((pre.length + 1 : Nat) : Int),(wrap_i64 (by omega)).trans (by omega),?_⟩
   refine store_one (ttOk.get 3 _ rfl) h2 (o := 0) (v := i64 (pre.length + 1 : Nat)) rfl rfl (by show 0 < 1; decide) rfl fun Z fZ gZ sZ => ?_
   refine ⟨_,⟨rfl,by omega,?_,grown_trans h3 gZ⟩,KeepsG.grown (F := fun k => k = N) gZ rfl⟩
   rw [List.length_append]
   exact fZ
  ·rintro D1 F Y hD hfD ⟨rfl,h1,h2,h3⟩ hdef
   refine ⟨D1,⟨.cons rfl (.cons rfl (.cons rfl (.cons rfl (.cons rfl (.cons rfl .nil))))),rfl⟩,h2,hdef,by omega,?_⟩
   exact grown_trans (grown_of_below hbW) h3
  ·rintro D ex pre F Y hD hfD hpre h
   exact h.elim
 clear fN sV
 rintro D1 U ⟨fN,fD1,hND,gU⟩
 have old : ∀ {k : Nat} {o : Obj},k ≠ N → V.heap[k]? = some o → U.heap[k]? = some o := fun {k o} hne h => (gU.block k (hlt h) (by simpa using hne)).trans h
 have sU := gU.size
 have hNV := hbV.size
 have f1 := old (by omega) f1
 have f2 := old (by omega) f2
 have oD : OwnS byteE 5 (L + 3) U d cc D := oD.kept gU fun g hg e => by
  have : g < N := dlt _ hg
  simp only [Option.some.injEq] at e
  omega
 have hwU : Below w.heap.size w U := hwV.trans ⟨gU.os,gU.tape,gU.output,gU.size,fun k hk => gU.block k (by have := hwV.size; omega) (by simp; omega)⟩
 clear f0 old gU hbV hwV
 obtain ⟨M,hM⟩ : ∃ M,M = U.heap.size := ⟨_,rfl⟩
 have hDU := hlt fD1
 refine ⟨Option Addr × Nat,fun s => ⟨[(0,.slice q l.length cap),(1,.slice d D.length cc),(6,AtR (L + 1)),(7,AtR (L + 2)),(9,AtR (M + 1))],[{ target := .collected D1,args := #[] }]⟩,fun s Z => Z.heap[M + 1]? = some (.cells [.slice s.1 0 s.2].toArray 158 (0,0)) ∧ OwnS pthE 165 M Z s.1 s.2 [] ∧ (∀ a,s.1 = some a → a.block = M) ∧ Z.heap.size = M + 2 ∧ Below U.heap.size U Z,?_,?_⟩
 ·refine ⟨_,cells_at (cells_block fN) (i := 0) rfl,?_⟩
  refine make_own (E := pthE) Tryz.underlying158 (ttOk.get 165 _ rfl) rfl rfl rfl xs0.length (by show 104 * _ ≤ _; omega) (by unfold maxLen; omega) fun Z oZ hbZ' sZ' => ?_
  refine store_new (X := Z) (v := .slice (some ⟨U.heap.size,0,none⟩) 0 xs0.length) (ttOk.get 158 _ rfl) rfl rfl rfl fun Z2 hbZ2 fZ2 sZ2 => ?_
  rw [← hM] at oZ sZ'
  rw [sZ'] at fZ2 sZ2
  refine ⟨(some ⟨M,0,none⟩,xs0.length),⟨.cons rfl (.cons rfl (.cons rfl (.cons rfl (.cons (by rw [← sZ']; rfl) .nil)))),rfl⟩,by rw [hM] at fZ2 ⊢; exact fZ2,oZ.below hbZ2,fun a ha => by cases ha; rfl,sZ2,hbZ'.trans (hbZ2.mono hbZ'.size)⟩
 clear fN
 rintro ⟨p0,c0⟩ V ⟨fV,oV,p0M,sV,hbV⟩
 dsimp only at fV oV p0M
 have f1 := block_below hbV f1
 have f2 := block_below hbV f2
 have fD1 := block_below hbV fD1
 have oD := oD.below hbV
 have hwV := hwU.trans (hbV.mono hwU.size)
 have hMU : w.heap.size ≤ M := by rw [hM]; exact hwU.size
 have dlt2 : ∀ a,d = some a → a.block < N := dlt
 refine Calls.mono endsF_c ?_
 rintro e W ⟨rfl,fi,fd,sW,hbW⟩
 have hwW := hwV.trans (hbW.mono hwV.size)
 have hVM : Below V.heap.size V W := hbW
 have hI := ends_c (q := q) (p := d) (hl.below hwW) (oD.below hbW).row fi fd (fun a ha => by have := hqb a ha; have := hwW.size; omega) (fun a ha => by have := dlt a ha; omega) h12 hx (by omega)
 rw [← hxs0] at hI
 refine rangeG (sgOk _) rfl (lb := #[AtR V.heap.size,AtR (V.heap.size + 1)]) rfl rfl hI (Nat.le_refl _) (fun k hk => ⟨?_,rfl⟩) (fun pre vs W ⟨R,b,_,h,_⟩ => by rw [h]; rfl) (by decide)
  (fun k => k = M + 1 ∨ k = M) (JPa M W.heap.size (M + 1) W) (fun _ _ _ _ => False) (fun k hk => ?_)
  (JPa.iter (by omega) rfl) (fun ex => ⟨fun _ _ _ _ h => h.elim,fun _ _ _ _ h => h.elim⟩) ⟨⟨Nat.le_refl _,.inl rfl,fun k hk => by omega⟩,⟨[],p0,c0,block_below hbW fV,⟨oV.below hbW,fun a ha => .inr (p0M a ha)⟩,rfl,fun x hx => (by cases hx)⟩,Below.refl _ _⟩ ?_ ?_ ?_
 ·rcases hk with ((rfl | rfl) | ⟨a,ha,rfl⟩ | ⟨a,ha,rfl⟩) | h
  ·omega
  ·omega
  ·have := hqb a ha; have := hwW.size; omega
  ·have := dlt a ha; omega
  ·exact h.elim
 ·rcases hk with (rfl | rfl) | ⟨a,ha,rfl⟩ | ⟨a,ha,rfl⟩
  ·omega
  ·omega
  ·have := hqb a ha; omega
  ·have := dlt a ha; omega
 ·rintro yl pre x vs F Y hyl hpre hJ ⟨R,b,hlast,rfl,fR⟩ hfy ⟨lo,hlo⟩
  have hxR : x = R := by simpa using hlast
  subst hxR
  refine ⟨rfl,F,KeepsG.refl _ _,hJ,?_⟩
  rintro o Y2 hY2 ⟨⟨h1,h2,h3⟩,⟨xs,p,c,h4,h5,h6,h7⟩,h8⟩
  have hbl : b ≠ yl := fun e => by
   rw [e] at fR
   rw [fR] at hlo
   cases hlo
  have fR2 : RunH Y2 b x := by rw [hY2]; exact (heap_put_old hbl).trans fR
  have hmem : x ∈ xs0 := hpre.subset (by simp)
  obtain ⟨r1,r2⟩ := hR x hmem
  have hxl : xs.length = pre.length := by
   have := congrArg List.length h6
   rw [List.length_map,List.length_map] at this
   exact this
  have hpl : pre.length < xs0.length := by
   obtain ⟨t,ht⟩ := hpre
   rw [← ht]
   simp only [List.length_append,List.length_cons]
   omega
  have hwY2 : Below w.heap.size w Y2 := hwW.trans (h8.mono hMU)
  have hd2 : Below Y2.heap.size Y2 Y2.drew := (Below.refl _ _).drew
  have hwY2d : Below w.heap.size w Y2.drew := hwY2.trans (hd2.mono hwY2.size)
  refine DrawE.ord [4,5] [0,1,2,3,4,5] (by kernel_rfl) ?_
  refine ⟨_,cells_at (cells_block (hdr h4)) (i := 0) rfl,?_⟩
  refine Calls.mono (path_c (hdr fR2) r1 r2 (hG.t32.below hwY2d)) ?_
  rintro e Y3 ⟨⟨q1,k1,q2,k2,q3,k3,q4,k4,rfl,o1,o2,o3,o4⟩,hb3⟩
  refine ⟨hb3,?_⟩
  obtain ⟨nx,hnx⟩ : ∃ nx : PthR,nx = (pathR x,(q1,k1),(q2,k2),(q3,k3),(q4,k4)) := ⟨_,rfl⟩
  have hen : pthC (pathR x) q1 k1 q2 k2 q3 k3 q4 k4 = pthE.enc nx := by rw [hnx]; rfl
  rw [hen]
  refine ⟨⟨by decide,by decide,rfl⟩,pthE.enc nx,fill_one (pthE.len nx) rfl,?_⟩
  have hba : Below Y3.heap.size Y3 (Y3.alloc (.cells (pthE.enc nx).toArray 165)) := (Below.refl _ _).alloc (Nat.le_refl _) _
  have sa : (Y3.alloc (.cells (pthE.enc nx).toArray 165)).heap.size = Y3.heap.size + 1 := World.size_alloc _ _
  have s3 : Y2.heap.size ≤ Y3.heap.size := hb3.size
  refine ⟨hba,?_⟩
  have hb2 : Below Y2.heap.size Y2 (Y3.alloc (.cells (pthE.enc nx).toArray 165)) := (hd2.trans hb3).trans (hba.mono s3)
  refine app_own (E := pthE) (T := 165) (B := M) (l := xs) (news := [nx]) (cap := c) (m := 1) Tryz.underlying158 (ttOk.get 165 _ rfl) rfl rfl rfl (h5.own.below hb2) rfl (one_new pthE nx) (by omega) (by omega) (by show (xs.length + 1) * 104 ≤ _; omega) ?_
  intro p2 c2 Y5 o5 g5 hb5 hat
  have h4' : Y5.heap[M + 1]? = some (.cells [.slice p xs.length c].toArray 158 (0,0)) := by
   refine (g5.block (M + 1) (hlt (block_below hb2 h4)) fun e => ?_).trans (block_below hb2 h4)
   cases hp : p with
   | none => rw [hp] at e; simp [Value.ownBlock] at e
   | some a =>
    rw [hp] at e
    simp only [Value.ownBlock,Option.some.injEq] at e
    obtain ⟨_,_,cur,hcur⟩ := own_bl h5.own hp
    rw [← e] at hcur
    rw [hcur] at h4
    simp at h4
  refine store_one (ttOk.get 158 _ rfl) h4' (o := 0) (v := .slice p2 (xs ++ [nx]).length c2) rfl rfl (by show 0 < 1; decide) rfl fun Z fZ gZ sZ => ?_
  have s5 := g5.size
  have wr : ∀ k,k < Y2.heap.size → k ≠ M + 1 → (∀ a,p = some a → k ≠ a.block) → Z.heap[k]? = Y2.heap[k]? := fun k hk hne hnp => by
   refine (gZ.block k (by omega) (by simpa using hne)).trans ((g5.block k (by omega) fun e => ?_).trans (hb2.block k hk))
   cases hp : p with
   | none => rw [hp] at e; simp [Value.ownBlock] at e
   | some a =>
    rw [hp] at e
    simp only [Value.ownBlock,Option.some.injEq] at e
    exact hnp a hp e
  have new : ∀ k,Y2.heap.size ≤ k → k < Y3.heap.size → Z.heap[k]? = Y3.heap[k]? := fun k hk1 hk2 => by
   refine (gZ.block k (by omega) (by simp; omega)).trans ((g5.block k (by omega) fun e => ?_).trans (hba.block k hk2))
   cases hp : p with
   | none => rw [hp] at e; simp [Value.ownBlock] at e
   | some a =>
    rw [hp] at e
    simp only [Value.ownBlock,Option.some.injEq] at e
    have := h3 _ (h5.inF a hp)
    omega
  have tyne : ∀ {α : Type} {E : Enc α} {T c : Nat} {r : Option Addr} {B : Nat} {ll : List α},T ≠ 165 → T ≠ 158 → OwnS E T B Y2 r c ll → ∀ a,r = some a → Z.heap[a.block]? = Y2.heap[a.block]? := fun {α E T c r B ll} t1 t2 ho a ha => by
   obtain ⟨_,hl2,cur,hcur⟩ := own_bl ho ha
   refine wr _ hl2 (fun e => ?_) (fun a' ha' e => ?_)
   ·rw [e,h4] at hcur
    simp at hcur
    exact t2 hcur.2.symm
   ·obtain ⟨_,_,cur',hcur'⟩ := own_bl h5.own ha'
    rw [e,hcur'] at hcur
    simp at hcur
    exact t1 hcur.2.symm
  have inNew : ∀ {α : Type} {E : Enc α} {T c : Nat} {r : Option Addr} {ll : List α},OwnS E T Y2.drew.heap.size Y3 r c ll → RowIn E T W.heap.size (fun k => F k ∨ (Y2.heap.size ≤ k ∧ k < Z.heap.size)) Z r c ll := fun {α E T c r ll} ho => by
   refine ⟨OwnS.lower (ho.same fun a ha => ?_) h1,fun a ha => ?_⟩
   ·have := own_bl ho ha
    exact new _ this.1 this.2.1
   ·have h := own_bl ho ha
    have ha1 : Y2.heap.size ≤ a.block := h.1
    exact .inr ⟨ha1,by have := h.2.1; omega⟩
  refine ⟨fun k => F k ∨ (Y2.heap.size ≤ k ∧ k < Z.heap.size),⟨⟨by omega,.inl h2,fun k hk => ?_⟩,⟨xs ++ [nx],p2,c2,fZ,⟨o5.kept gZ fun g hg e => ?_,fun a ha => ?_⟩,?_,fun y hy => ?_⟩,?_⟩,⟨gZ.os.trans (g5.os.trans hb2.os),gZ.tape.trans (g5.tape.trans hb2.tape),gZ.output.trans (g5.output.trans hb2.output),by omega,fun k hk hf => wr k hk (fun e => hf (by rw [e]; exact h2)) (fun a ha e => hf (by rw [e]; exact h5.inF a ha)),fun k hk => hk.imp id fun h => h.1⟩⟩
  ·rcases hk with hk | hk
   ·have := h3 k hk; omega
   ·exact hk.2
  ·have := own_bl o5 hg
   obtain ⟨_,_,cur,hcur⟩ := this
   simp only [Option.some.injEq] at e
   have hcur : Y5.heap[g]? = _ := hcur
   rw [← e,h4'] at hcur
   simp at hcur
  ·rcases hat a ha with h | h
   ·exact .inl (h5.inF a h)
   ·have := (own_bl o5 ha).2.1
    exact .inr ⟨by omega,by omega⟩
  ·rw [List.map_append,h6,List.map_append,hnx]; rfl
  ·rcases List.mem_append.1 hy with hy | hy
   ·have h := h7 y hy
    have st : ∀ {α : Type} {E : Enc α} {T c : Nat} {r : Option Addr} {ll : List α},T ≠ 165 → T ≠ 158 → RowIn E T W.heap.size F Y2 r c ll → RowIn E T W.heap.size (fun k => F k ∨ (Y2.heap.size ≤ k ∧ k < Z.heap.size)) Z r c ll := fun {α E T c r ll} t1 t2 hh => ⟨hh.own.same fun a ha => tyne t1 t2 hh.own a ha,fun a ha => .inl (hh.inF a ha)⟩
    exact ⟨st (by decide) (by decide) h.1,st (by decide) (by decide) h.2.1,st (by decide) (by decide) h.2.2.1,st (by decide) (by decide) h.2.2.2⟩
   ·simp only [List.mem_singleton] at hy
    subst hy
    rw [hnx]
    exact ⟨inNew o1,inNew o2,inNew o3,inNew o4⟩
  ·refine h8.trans ⟨gZ.os.trans (g5.os.trans hb2.os),gZ.tape.trans (g5.tape.trans hb2.tape),gZ.output.trans (g5.output.trans hb2.output),by omega,fun k hk => wr k (by omega) (by omega) fun a ha => ?_⟩
   have := (own_bl h5.own ha).1
   omega
 ·rintro D2 F Y hD hfD ⟨⟨h1,h2,h3⟩,⟨xs,p,c,h4,h5,h6,h7⟩,h8⟩ hdef
  have g1 : Y.heap[L + 1]? = some (.cells #[.slice none 0 0] 158 (0,0)) := (h8.block (L + 1) (by omega)).trans (block_below hbW f1)
  have g2 : Y.heap[L + 2]? = some (.cells #[i64 0] 40 (0,0)) := (h8.block (L + 2) (by omega)).trans (block_below hbW f2)
  have gD : Y.heap[D1]? = some (.deferred (some [])) := (h8.block D1 (by omega)).trans (block_below hbW fD1)
  refine ⟨_,cells_at (cells_block h4) (i := 0) rfl,?_⟩
  refine store_one (ttOk.get 158 _ rfl) g1 (o := 0) (v := .slice p xs.length c) rfl rfl (by show 0 < 1; decide) rfl fun Z1 fZ1 gZ1 sZ1 => ?_
  have g2' := (gZ1.block (L + 2) (hlt g2) (by simp)).trans g2
  refine store_one (ttOk.get 40 _ rfl) g2' (o := 0) (v := i64 0) rfl rfl (by show 0 < 1; decide) rfl fun Z2 fZ2 gZ2 sZ2 => ?_
  have hYs : M < Y.heap.size := by omega
  have k2 : ∀ k,k < Y.heap.size → k ≠ L + 1 → k ≠ L + 2 → Z2.heap[k]? = Y.heap[k]? := fun k hk n1 n2 => (gZ2.block k (by rw [sZ1]; exact hk) (by simpa using n2)).trans (gZ1.block k hk (by simpa using n1))
  have hdef2 := (k2 D2 (hlt hdef) (by omega) (by omega)).trans hdef
  have hD12 := (k2 D1 (hlt gD) (by omega) (by omega)).trans gD
  have fZ1' := (gZ2.block (L + 1) (hlt fZ1) (by simp)).trans fZ1
  have neD : D1 ≠ D2 := by omega
  refine ⟨_,rfl,hdef2,?_⟩
  refine ⟨_,rfl,(heap_put_old neD).trans hD12,?_⟩
  obtain ⟨Zf,hZf⟩ : ∃ Zf,Zf = (Z2.putObj D2 (.deferred none)).putObj D1 (.deferred none) := ⟨_,rfl⟩
  have kf : ∀ k,k ≠ D1 → k ≠ D2 → Zf.heap[k]? = Z2.heap[k]? := fun k n1 n2 => by rw [hZf]; exact (heap_put_old n1).trans (heap_put_old n2)
  refine ⟨.slice p xs.length c,?_,i64 0,?_,⟨xs,p,c,rfl,h6,?_,fun x hx => ?_⟩,?_⟩
  ·exact cells_at (cells_block (by rw [← hZf]; exact (kf (L + 1) (by omega) (by omega)).trans fZ1')) (i := 0) rfl
  ·exact cells_at (cells_block (by rw [← hZf]; exact (kf (L + 2) (by omega) (by omega)).trans fZ2)) (i := 0) rfl
  ·rw [← hZf]
   refine OwnS.lower (h5.own.same fun a ha => ?_) hMU
   have h := own_bl h5.own ha
   have n1 : a.block ≠ D2 := fun e => by rw [← e] at hfD; exact hfD (h5.inF a ha)
   exact (kf _ (by omega) n1).trans (k2 _ h.2.1 (by omega) (by omega))
  ·have h := h7 x hx
   have st : ∀ {α : Type} {E : Enc α} {T c : Nat} {r : Option Addr} {ll : List α},RowIn E T W.heap.size F Y r c ll → OwnS E T w.heap.size Zf r c ll := fun {α E T c r ll} hh => by
    refine OwnS.lower (hh.own.same fun a ha => ?_) hwW.size
    have h := own_bl hh.own ha
    have n1 : a.block ≠ D2 := fun e => by rw [← e] at hfD; exact hfD (hh.inF a ha)
    exact (kf _ (by omega) n1).trans (k2 _ h.2.1 (by omega) (by omega))
   rw [← hZf]
   exact ⟨st h.1,st h.2.1,st h.2.2.1,st h.2.2.2⟩
  ·have hwY : Below w.heap.size w Y := hwW.trans (h8.mono hMU)
   have b1 := (hwY.trans (below_grown gZ1 hwY.size (by omega))).trans (below_grown gZ2 (by rw [sZ1]; exact hwY.size) (by omega))
   exact below_put (below_put b1 (by omega) _) (by omega) _
 ·rintro D ex pre F Y hD hfD hpre h
  exact h.elim
end
end Go.Proofs.YtkpcgpmimejimaaGreatDoor
namespace Go.Proofs.YtkpcgpmimejimaaGreatDoor
open Go.Vc Go.RowKit Go.Sei
structure RelAt (X : World) (b o : Nat) (T : TypeId) (A Z : List Value) (r : RelD) : Prop where
 at_ : A.length = o
 cells : X.heap[b]? = some (.cells (A ++ (relC r ++ Z)).toArray T (0,0))
section
variable {X : World} {b o : Nat} {T : TypeId} {A Z : List Value} {r : RelD}
theorem RelAt.cell (h : RelAt X b o T A Z r) {i : Nat} (hi : i < 48) : X.cell? ⟨b,o + 1 + i * 1,none⟩ = some (s64 (r.to i)) := by
 have : (A ++ (relC r ++ Z))[o + 1 + i * 1]? = some (s64 (r.to i)) := by
  rw [Nat.mul_one,Nat.add_assoc,get_app h.at_,List.getElem?_append_left (by rw [relC_len]; omega),relC_at r hi]
 have h2 := cells_at (cells_block h.cells) this
 rw [Nat.zero_add] at h2
 exact h2
theorem RelAt.set (h : RelAt X b o T A Z r) {i : Nat} (hi : i < 48) (v : Nat) : (A ++ (relC r ++ Z)).set (o + 1 + i * 1) (s64 v) = A ++ (relC ⟨r.n,upd r.to i v⟩ ++ Z) := by
 rw [Nat.mul_one,Nat.add_assoc,set_app h.at_,List.set_append_left _ _ (by rw [relC_len]; omega),relC_set r hi]
theorem RelAt.len (h : RelAt X b o T A Z r) : (A ++ (relC r ++ Z)).length = o + 49 + Z.length := by
 rw [List.length_append,List.length_append,relC_len,h.at_]; omega
theorem RelAt.same {Y : World} (h : RelAt X b o T A Z r) (hs : Y.heap[b]? = X.heap[b]?) : RelAt Y b o T A Z r := ⟨h.at_,hs.trans h.cells⟩
def putOk (f : Nat) (ps : List (Nat × Nat)) : Prop := ∀ p ∈ ps,f + p.1 < 48 ∧ f + p.2 < 48
theorem putF_wrd {f : Nat} : ∀ {ps : List (Nat × Nat)} {to : Nat → Nat},WrdR to → putOk f ps → WrdR (putF f ps to)
 | [],_,h,_ => h
 | p :: ps,to,h,hp => by
  have h1 := hp p List.mem_cons_self
  exact putF_wrd (ps := ps) (upd_wrd h (Nat.or_lt_two_pow (h _ h1.1) (pow_lt64 (by omega)))) fun q hq => hp q (List.mem_cons_of_mem _ hq)
theorem u8_nat {n : Nat} (h : n < 256) : ((UInt8.ofNat n).toNat : Int) = (n : Nat) := by
 have : (UInt8.ofNat n).toNat = n := by simp; omega
 rw [this]
theorem put_c {w : World} {q : Option Addr} {cap f : Nat} {ps : List (Nat × Nat)} (hr : RelAt w b o T A Z r) (hw : WrdR r.to) (hl : SlR prE w q ps) (hqb : ∀ a,q = some a → a.block ≠ b) (hn : ps.length ≤ 100000) (hp : putOk f ps) :
  Calls Tryz.prog 134 #[.pointer (some ⟨b,o,none⟩),.slice q ps.length cap,i64 f] w fun e w' => e = .returned (.tuple #[]) ∧ RelAt w' b o T A Z (putR f ps r) ∧ w.grownBy w' (some b) := by
 refine calls_of_E (S := sg 35) (sgOk _) (args := [.pointer (some ⟨b,o,none⟩),.slice q ps.length cap,i64 f]) Tryz.func134 rfl rfl (Nat.le_of_ble_eq_true rfl) rfl ?_
 have hbw := hlt hr.cells
 refine ⟨Nat × (Nat → Nat),fun s => ⟨[(0,.pointer (some ⟨b,o,none⟩)),(1,.slice q ps.length cap),(2,i64 f),(8,.slice q ps.length cap),(9,i64 ps.length),(10,i64 (s.1 : Nat))],[]⟩,
  fun s X => s.1 ≤ ps.length ∧ WrdR s.2 ∧ putF f (ps.drop s.1) s.2 = putF f ps r.to ∧ RelAt X b o T A Z ⟨r.n,s.2⟩ ∧ w.grownBy X (some b),fun s => ps.length - s.1,(0,r.to),
  ⟨.cons rfl (.cons rfl (.cons rfl (.cons rfl (.cons rfl (.cons rfl .nil))))),rfl⟩,⟨Nat.zero_le _,hw,rfl,hr,grown_refl _ _⟩,?_⟩
 rintro ⟨k,g⟩ X ⟨hk,hg,he,hX,gX⟩
 dsimp only at hk hg he hX ⊢
 have hXs := gX.size
 refine And.intro (fun hc => ?_) (fun hc => ?_)
 ·have hc : (k : Int) < (ps.length : Int) := of_decide_eq_true hc
  have hkl : k < ps.length := by omega
  obtain ⟨pr,hpr⟩ : ∃ pr,ps[k] = pr := ⟨_,rfl⟩
  obtain ⟨p1,p2⟩ := hp pr (by rw [← hpr]; exact List.getElem_mem hkl)
  rw [← List.getElem_cons_drop hkl,hpr] at he
  have he : putF f (ps.drop (k + 1)) (upd g (f + pr.1) (g (f + pr.1) ||| 2 ^ (f + pr.2))) = putF f ps r.to := he
  obtain ⟨bp,op,rfl,hlp,hat⟩ := hl.at hkl
  have hbp : bp ≠ b := hqb _ rfl
  have hatX : Cells X ⟨bp,op + k * 2,none⟩ (prE.enc ps[k]) := cells_same (gX.block bp hlp (by simpa using hbp)) (hat k hkl)
  refine ⟨k,rfl,hkl,?_⟩
  refine ⟨prE.enc pr,rfl,by rw [← hpr]; exact hatX,Nat.lt_of_lt_of_le hlp hXs,?_⟩
  refine store_new (X := X) (v := .agg (prE.enc pr).toArray) (ttOk.get 37 _ rfl) rfl rfl rfl fun Y hbY fY sY => ?_
  refine DrawE.ord [20] [0,1,2,3,4,5,6,7,8,9,10,11,12,13,14,15,16,17,18,19,20] (by kernel_rfl) ?_
  have fY1 : Y.heap[X.heap.size]? = some (.cells (prE.enc pr).toArray 37 (0,0)) := fY
  have hrY := hX.same (hbY.block b (Nat.lt_of_lt_of_le hbw hXs))
  refine ⟨0,rfl,by decide,?_⟩
  refine ⟨u8 (UInt8.ofNat pr.1),cells_at (cells_block (hdr fY1)) (i := 0 * 1) rfl,?_⟩
  refine ⟨((pr.1 : Nat) : Int),by rw [u8_nat (by omega)]; exact wrap_i64 (by omega),?_⟩
  refine ⟨((f + pr.1 : Nat) : Int),(wrap_i64 (by omega)).trans (by omega),?_⟩
  refine ⟨f + pr.1,rfl,by omega,?_⟩
  refine ⟨s64 (g (f + pr.1)),(hrY.same (Y := Y.drew) rfl).cell p1,?_⟩
  refine ⟨1,rfl,by decide,?_⟩
  refine ⟨u8 (UInt8.ofNat pr.2),cells_at (cells_block (hdr fY1)) (i := 1 * 1) rfl,?_⟩
  refine ⟨((pr.2 : Nat) : Int),by rw [u8_nat (by omega)]; exact wrap_i64 (by omega),?_⟩
  refine ⟨((f + pr.2 : Nat) : Int),(wrap_i64 (by omega)).trans (by omega),?_⟩
  refine ⟨by omega,_,w64_one (e := f + pr.2) (by omega),?_⟩
  refine ⟨_,w64_or (hg _ p1) (pow_lt64 (by omega)),?_⟩
  refine ⟨f + pr.1,rfl,by omega,?_⟩
  refine store_one (ttOk.get 24 _ rfl) (hrY.same (Y := Y.drew) rfl).cells (o := o + 1 + (f + pr.1) * 1) (v := s64 (g (f + pr.1) ||| 2 ^ (f + pr.2))) rfl rfl (by rw [hrY.len]; omega) rfl fun S fS gS sS => ?_
  rw [hrY.set p1] at fS
  refine ⟨((k + 1 : Nat) : Int),(wrap_i64 (by omega)).trans (by omega),?_⟩
  exact ⟨(k + 1,_),⟨.cons rfl (.cons rfl (.cons rfl (.cons rfl (.cons rfl (.cons rfl .nil))))),rfl⟩,⟨hkl,upd_wrd hg (Nat.or_lt_two_pow (hg _ p1) (pow_lt64 (by omega))),he,⟨hr.at_,fS⟩,grown_trans gX (grown_trans (grown_of_below hbY) (grown_trans (grown_of_below (Below.refl _ Y).drew) gS))⟩,by show ps.length - (k + 1) < ps.length - k; omega⟩
 ·have hc : ¬ (k : Int) < (ps.length : Int) := of_decide_eq_false hc
  obtain rfl : k = ps.length := by omega
  rw [List.drop_length] at he
  have he : g = putF f ps r.to := he
  subst he
  exact ⟨rfl,hX,gX⟩
end
end Go.Proofs.YtkpcgpmimejimaaGreatDoor
namespace Go.Proofs.YtkpcgpmimejimaaGreatDoor
open Go.Vc Go.RowKit Go.Sei
def StBk (pre : List Nat) (vs : List Value) (W : World) : Prop := ∃ (a i : Nat),pre.getLast? = some a ∧ vs = [i64 i,i64 a]
theorem back_c {bx : Nat} {l : List Nat} {q : Option Addr} {c : Nat} {W0 : World} (fx : W0.heap[bx]? = some (.cells #[.slice q l.length c] 95 (0,0))) (hl : SlR natE W0 q l) (hql : ∀ a,q = some a → a.block < W0.heap.size) (hn : l.length ≤ 100000) :
  IterG Tryz.prog 112 [At0 bx] l.reverse W0 (fun k => k = bx ∨ ∃ a,q = some a ∧ k = a.block) (fun _ => False) StBk := by
 intro yl F0 J Jx W hsz hrd hrf hJ hJx hy h0
 have fxW := (hrd bx (.inl (.inl rfl))).trans fx
 have hlW : SlR natE W q l := slr_same hl fun a ha => hrd _ (.inl (.inr ⟨a,ha,rfl⟩))
 have hbxW := hlt fxW
 refine calls_of_E (S := sg 19) (sgOk _) (args := [.func (.yield yl) #[] #[],At0 bx]) Tryz.func112 rfl rfl (Nat.le_of_ble_eq_true rfl) rfl ?_
 refine ⟨_,cells_at (cells_block fxW) (i := 0) rfl,?_⟩
 refine ⟨((l.length : Nat) : Int) - 1,wrap_i64 (by omega),?_⟩
 refine ⟨Nat × (Nat → Prop),fun s => ⟨[(0,.func (.yield yl) #[] #[]),(1,At0 bx),(3,i64 (((l.length : Nat) : Int) - 1 - (s.1 : Nat)))],[]⟩,
  fun s V => s.1 ≤ l.length ∧ J (l.reverse.take s.1) s.2 V ∧ W.heap.size ≤ V.heap.size ∧ V.heap[bx]? = some (.cells #[.slice q l.length c] 95 (0,0)) ∧ ¬ s.2 bx ∧ RowF natE W.heap.size s.2 V q l,fun s => l.length - s.1,(0,F0),
  ⟨.cons rfl (.cons rfl (.cons (by show _ = some (i64 (((l.length : Nat) : Int) - 1 - ((0 : Nat) : Int))); rw [Int.ofNat_zero,Int.sub_zero]; rfl) .nil)),rfl⟩,⟨Nat.zero_le _,h0,Nat.le_refl _,fxW,hrf _ (.inl rfl),⟨hlW,fun a ha => ⟨by have := hql a ha; omega,hrf _ (.inr ⟨a,ha,rfl⟩)⟩⟩⟩,?_⟩
 rintro ⟨t,F⟩ V ⟨ht,hjV,hWV,fxV,hbF,hqV⟩
 dsimp only at ht hjV hbF hqV ⊢
 refine And.intro (fun hi => ?_) (fun hi => ?_)
 ·have hi : (0 : Int) ≤ ((l.length : Nat) : Int) - 1 - (t : Nat) := of_decide_eq_true hi
  obtain ⟨i,hit⟩ : ∃ i,i + t + 1 = l.length := ⟨l.length - 1 - t,by omega⟩
  have hii : ((l.length : Nat) : Int) - 1 - (t : Nat) = (i : Nat) := by omega
  rw [hii]
  have hil : i < l.length := by omega
  have hrt : l.reverse[t]? = some l[i] := by
   rw [List.getElem?_reverse (by omega),show l.length - 1 - t = i by omega,List.getElem?_eq_getElem hil]
  have htl : t < l.reverse.length := by rw [List.length_reverse]; omega
  have hre : l.reverse[t] = l[i] := by rw [List.getElem?_eq_getElem htl] at hrt; exact Option.some.inj hrt
  have htk : l.reverse.take (t + 1) = l.reverse.take t ++ [l[i]] := by rw [List.take_succ_eq_append_getElem htl,hre]
  refine ⟨_,cells_at (cells_block fxV) (i := 0) rfl,?_⟩
  obtain ⟨bq,oq,hqe,hlq,hatq⟩ := hqV.row.at hil
  subst hqe
  refine ⟨i,rfl,hil,?_⟩
  refine ⟨i64 l[i],cells_at (hatq i hil) (i := 0) rfl,?_⟩
  refine YieldR.mono (hy _ l[i] [i64 (i : Nat),i64 l[i]] F V hjV ⟨l[i],i,by simp,rfl⟩ (by rw [← htk]; exact List.take_prefix _ _)) ?_
  rintro v Y (⟨rfl,F',hjY,kY⟩ | ⟨rfl,F',hjY⟩)
  ·refine brF ?_
   have hbF' : ¬ F' bx := fun h => by
    rcases kY.fp bx h with h | h
    ·exact hbF h
    ·have := hlt fxV; omega
   refine ⟨((l.length : Nat) : Int) - 1 - ((t + 1 : Nat) : Int),(wrap_i64 (by omega)).trans (by omega),?_⟩
   exact ⟨(t + 1,F'),⟨.cons rfl (.cons rfl (.cons rfl .nil)),rfl⟩,⟨by omega,by rw [htk]; exact hjY,Nat.le_trans hWV kY.size,(kY.same bx (hlt fxV) hbF).trans fxV,hbF',hqV.keep hWV kY (fun _ _ h => h)⟩,by show l.length - (t + 1) < l.length - t; omega⟩
  ·refine brT ?_
   exact ⟨⟨_,rfl⟩,.inr ⟨_,F',by rw [← htk]; exact List.take_prefix _ _,hjY⟩⟩
 ·have hi : ¬ (0 : Int) ≤ ((l.length : Nat) : Int) - 1 - (t : Nat) := of_decide_eq_false hi
  have hte : t = l.length := by omega
  subst hte
  rw [List.take_of_length_le (by rw [List.length_reverse]; exact Nat.le_refl _)] at hjV
  exact ⟨⟨_,rfl⟩,.inl ⟨F,hjV⟩⟩
theorem backF_c {q : Option Addr} {n c : Nat} {w : World} : Calls Tryz.prog 95 #[.slice q n c] w fun e w' => e = .returned (.func (.func 112) #[] #[At0 w.heap.size]) ∧ w'.heap[w.heap.size]? = some (.cells #[.slice q n c] 95 (0,0)) ∧ w'.heap.size = w.heap.size + 1 ∧ Below w.heap.size w w' := by
 refine calls_of_E (S := sg 4) (sgOk _) (args := [.slice q n c]) Tryz.func95 rfl rfl (Nat.le_of_ble_eq_true rfl) rfl ?_
 exact ⟨rfl,hnew w _,World.size_alloc _ _,(Below.refl _ w).alloc (Nat.le_refl _) _⟩
theorem odoF_c {q : Option Addr} {n c : Nat} {w : World} : Calls Tryz.prog 104 #[.slice q n c] w fun e w' => e = .returned (.func (.func 131) #[] #[At0 w.heap.size]) ∧ w'.heap[w.heap.size]? = some (.cells #[.slice q n c] 95 (0,0)) ∧ w'.heap.size = w.heap.size + 1 ∧ Below w.heap.size w w' := by
 refine calls_of_E (S := sg 4) (sgOk _) (args := [.slice q n c]) Tryz.func104 rfl rfl (Nat.le_of_ble_eq_true rfl) rfl ?_
 exact ⟨rfl,hnew w _,World.size_alloc _ _,(Below.refl _ w).alloc (Nat.le_refl _) _⟩
end Go.Proofs.YtkpcgpmimejimaaGreatDoor
namespace Go.Proofs.YtkpcgpmimejimaaGreatDoor
open Go.Vc Go.RowKit Go.Sei
def linS (p : (Nat → Nat) × Nat) (a : Nat) : (Nat → Nat) × Nat := (upd p.1 a p.2,p.2 ||| 2 ^ a)
theorem lineF_fold : ∀ (l : List Nat) (f : Nat → Nat) (b : Nat),lineF l f b = (l.foldl linS (f,b)).1
 | [],_,_ => rfl
 | a :: l,f,b => lineF_fold l (upd f a b) (b ||| 2 ^ a)
theorem lin_wrd : ∀ {l : List Nat} {f : Nat → Nat} {b : Nat},WrdR f → b < 2 ^ 64 → (∀ a ∈ l,a < 48) → WrdR (l.foldl linS (f,b)).1 ∧ (l.foldl linS (f,b)).2 < 2 ^ 64
 | [],_,_,h,hb,_ => ⟨h,hb⟩
 | a :: l,f,b,h,hb,hl => lin_wrd (l := l) (upd_wrd h hb) (Nat.or_lt_two_pow hb (pow_lt64 (by have := hl a List.mem_cons_self; omega))) fun x hx => hl x (List.mem_cons_of_mem _ hx)
theorem lineR_wrd {l : List Nat} {r : RelD} (h : WrdR r.to) (hl : ∀ a ∈ l,a < 48) : WrdR (lineR l r).to := by
 show WrdR (lineF l.reverse r.to 0)
 rw [lineF_fold]
 exact (lin_wrd h (by decide) fun a ha => hl a (by simpa using ha)).1
section
variable {b o : Nat} {T : TypeId} {A Z : List Value} {r : RelD} {w : World} {q : Option Addr} {c : Nat} {l : List Nat}
theorem line_c (hr : RelAt w b o T A Z r) (hw : WrdR r.to) (hl : SlR natE w q l) (hql : ∀ a,q = some a → a.block < w.heap.size ∧ a.block ≠ b) (hn : l.length ≤ 100000) (h48 : ∀ a ∈ l,a < 48) :
  Calls Tryz.prog 68 #[.pointer (some ⟨b,o,none⟩),.slice q l.length c] w fun e w' => e = .returned (.tuple #[]) ∧ RelAt w' b o T A Z (lineR l r) ∧ w.grownBy w' (some b) := by
 refine calls_of_M (S := sg 21) (sgOk _) (args := [.pointer (some ⟨b,o,none⟩),.slice q l.length c]) (.s .p (.c .p .p)) Tryz.func68 rfl rfl (Nat.le_of_ble_eq_true rfl) rfl ?_
 obtain ⟨L,hL⟩ : ∃ L,L = w.heap.size := ⟨_,rfl⟩
 refine ⟨Unit,fun _ => ⟨[(1,.slice q l.length c),(2,At0 L),(4,At0 (L + 1))],[]⟩,fun _ X => X.heap[L]? = some (.cells #[.pointer (some ⟨b,o,none⟩)] 77 (0,0)) ∧ X.heap[L + 1]? = some (.cells #[s64 0] 24 (0,0)) ∧ X.heap.size = L + 2 ∧ Below w.heap.size w X,?_,?_⟩
 ·have s1 := World.size_alloc w (.cells #[.pointer (some ⟨b,o,none⟩)] 77 (0,0))
  have h2 := hnew (w.alloc (.cells #[.pointer (some ⟨b,o,none⟩)] 77 (0,0))) (.cells #[s64 0] 24 (0,0))
  have s2 := World.size_alloc (w.alloc (.cells #[.pointer (some ⟨b,o,none⟩)] 77 (0,0))) (.cells #[s64 0] 24 (0,0))
  rw [s1] at h2 s2
  exact ⟨(),⟨.cons rfl (.cons (by rw [hL]; rfl) (.cons (by rw [hL,← s1]; rfl) .nil)),rfl⟩,by rw [hL]; exact hold _ (hnew w _),by rw [hL]; exact h2,by rw [hL]; exact s2,((Below.refl _ w).alloc (Nat.le_refl _) _).alloc (by simp) _⟩
 rintro _ X ⟨f0,f1,sX,hbX⟩
 have hbw := hlt hr.cells
 refine Calls.mono backF_c ?_
 rintro e W ⟨rfl,fx,sW,hbW⟩
 have hwW := hbX.trans (hbW.mono hbX.size)
 have hI := back_c fx (hl.below hwW) (fun a ha => by have := (hql a ha).1; omega) hn
 have f0 := block_below hbW f0
 have f1 := block_below hbW f1
 refine rangeG (sgOk _) rfl (lb := #[At0 X.heap.size]) rfl rfl hI (Nat.le_refl _) (fun k hk => ⟨?_,rfl⟩) (fun pre vs W ⟨a,i,_,h⟩ => by rw [h]; rfl) (by decide)
  (fun k => k = b ∨ k = L + 1) (fun pre F Y => F = (fun k => k = b ∨ k = L + 1) ∧ W.heap.size ≤ Y.heap.size ∧ RelAt Y b o T A Z ⟨r.n,(pre.foldl linS (r.to,0)).1⟩ ∧ Y.heap[L + 1]? = some (.cells [s64 (pre.foldl linS (r.to,0)).2].toArray 24 (0,0)) ∧ Y.heap[L]? = some (.cells #[.pointer (some ⟨b,o,none⟩)] 77 (0,0)) ∧ w.grownBy Y (some b)) (fun _ _ _ _ => False) (fun k hk => ?_)
  (joG (F := fun k => k = b ∨ k = L + 1) (J := fun (pre : List Nat) Y => W.heap.size ≤ Y.heap.size ∧ RelAt Y b o T A Z ⟨r.n,(pre.foldl linS (r.to,0)).1⟩ ∧ Y.heap[L + 1]? = some (.cells [s64 (pre.foldl linS (r.to,0)).2].toArray 24 (0,0)) ∧ Y.heap[L]? = some (.cells #[.pointer (some ⟨b,o,none⟩)] 77 (0,0)) ∧ w.grownBy Y (some b))
   (fun k h => by omega) (fun s A h => h.1) (fun pre A B ⟨h1,h2,h3,h4,h5⟩ hb => ⟨Nat.le_trans h1 hb.size,h2.same (hb.block _ (by omega)),below_old hb (by omega) h3,below_old hb (by omega) h4,grown_then h5 (hb.mono hwW.size)⟩))
  (fun ex => ⟨fun _ _ _ _ h => h.elim,fun _ _ _ _ h => h.elim⟩) ⟨rfl,Nat.le_refl _,hr.same (hwW.block _ hbw),f1,f0,grown_of_below hwW⟩ ?_ ?_ ?_
 ·rcases hk with (rfl | ⟨a,ha,rfl⟩) | h
  ·omega
  ·have := (hql a ha).1; have := hwW.size; omega
  ·exact h.elim
 ·rcases hk with rfl | ⟨a,ha,rfl⟩
  ·omega
  ·have := hql a ha; omega
 ·rintro yl pre x vs F Y hyl hpre hJ ⟨a,i,hlast,rfl⟩ hfy hlo
  have hxa : x = a := by simpa using hlast
  subst hxa
  refine ⟨rfl,F,KeepsG.refl _ _,hJ,?_⟩
  rintro O Y2 hY2 ⟨rfl,h1,h2,h3,h4,h5⟩
  obtain ⟨g1,g2⟩ := lin_wrd (l := pre) (f := r.to) (b := 0) hw (by decide) (fun a ha => h48 a (by have := hpre.subset (List.mem_append_left _ ha); simpa using this))
  have hx48 : x < 48 := h48 x (by have := hpre.subset (List.mem_append_right _ (List.mem_singleton.2 rfl)); simpa using this)
  have hfold : (pre ++ [x]).foldl linS (r.to,0) = linS (pre.foldl linS (r.to,0)) x := by rw [List.foldl_append]; rfl
  obtain ⟨P,hP⟩ : ∃ P,P = pre.foldl linS (r.to,0) := ⟨_,rfl⟩
  rw [← hP] at h2 h3 g1 g2 hfold
  refine DrawE.ord [6] [0,1,2,3,4,5,6] (by kernel_rfl) ?_
  refine ⟨_,cells_at (cells_block (hdr h4)) (i := 0) rfl,?_⟩
  refine ⟨_,cells_at (cells_block (hdr h3)) (i := 0) rfl,?_⟩
  refine ⟨x,rfl,hx48,?_⟩
  refine store_one (ttOk.get 24 _ rfl) (h2.same (Y := Y2.drew) rfl).cells (o := o + 1 + x * 1) (v := s64 P.2) rfl rfl (by rw [h2.len]; omega) rfl fun S fS gS sS => ?_
  rw [h2.set hx48] at fS
  have gS2 : Y2.grownBy S (some b) := grown_trans (grown_of_below (Below.refl _ Y2).drew) gS
  have h3S := (gS2.block (L + 1) (hlt h3) (by simp; omega)).trans h3
  refine DrawE.ord [4] [0,1,2,3,4] (by kernel_rfl) ?_
  refine ⟨_,cells_at (cells_block (hdr h3S)) (i := 0) rfl,?_⟩
  refine ⟨by omega,_,w64_one (e := x) (by omega),?_⟩
  refine ⟨_,w64_or g2 (pow_lt64 (by omega)),?_⟩
  refine store_one (ttOk.get 24 _ rfl) (hdr h3S) (o := 0) (v := s64 (P.2 ||| 2 ^ x)) rfl rfl (by show 0 < 1; decide) rfl fun V fV gV sV => ?_
  have gV2 : S.grownBy V (some (L + 1)) := grown_trans (grown_of_below (Below.refl _ S).drew) gV
  have hLw : L = w.heap.size := hL
  refine ⟨fun k => k = b ∨ k = L + 1,⟨rfl,?_,⟨hr.at_,?_⟩,by rw [hfold]; exact fV,?_,?_⟩,(KeepsG.grown gS2 (.inl rfl)).trans (KeepsG.grown gV2 (.inr rfl))⟩
  ·have := gS2.size; have := gV2.size; omega
  ·rw [hfold]
   exact (gV2.block b (hlt fS) (by simp; omega)).trans fS
  ·exact (gV2.block L (Nat.lt_of_lt_of_le (hlt h4) gS2.size) (by simp)).trans ((gS2.block L (hlt h4) (by simp; omega)).trans h4)
  ·exact ⟨gV2.os.trans (gS2.os.trans h5.os),gV2.tape.trans (gS2.tape.trans h5.tape),gV2.output.trans (gS2.output.trans h5.output),by have := gS2.size; have := gV2.size; have := h5.size; omega,fun k hk hne => (gV2.block k (by have := gS2.size; have := h5.size; omega) (by simp; omega)).trans ((gS2.block k (by have := h5.size; omega) hne).trans (h5.block k hk hne))⟩
 ·rintro D F Y hD hfD ⟨rfl,h1,h2,h3,h4,h5⟩ hdef
  refine ⟨_,rfl,hdef,?_⟩
  have hDb : b ≠ D := by have := hwW.size; omega
  refine ⟨rfl,⟨hr.at_,?_⟩,?_⟩
  ·rw [show lineR l r = ⟨r.n,(l.reverse.foldl linS (r.to,0)).1⟩ by unfold lineR; rw [lineF_fold]]
   exact (heap_put_old hDb).trans h2.cells
  ·exact ⟨h5.os,h5.tape,h5.output,by have := h5.size; simpa [World.putObj] using this,fun k hk hne => (heap_put_old (by have := hwW.size; omega)).trans (h5.block k hk hne)⟩
 ·rintro D ex pre F Y hD hfD hpre h
  exact h.elim
end
end Go.Proofs.YtkpcgpmimejimaaGreatDoor
namespace Go.Proofs.YtkpcgpmimejimaaGreatDoor
open Go.Vc Go.RowKit Go.Sei
theorem own_set {P : Program} {iT : TI} {T B g cap i v : Nat} {l : List Nat} {w : World} (hT : TIok P T iT) (hs : iT.size = 1) (h : OwnS natE T B w (some ⟨g,0,none⟩) cap l) (hi : i < l.length) {K : World → Prop}
  (k : ∀ w',OwnS natE T B w' (some ⟨g,0,none⟩) cap (l.set i v) → w.grownBy w' (some g) → K w') : SatR ((storeVar T ⟨g,0 + i * 1,none⟩ (i64 v)).run P w) fun _ w' => K w' := by
 rcases h.inv with ⟨h,_⟩ | ⟨g',cur,hg,hB,hc,hl,hm,hs2,ht⟩
 ·cases h
 ·simp only [Option.some.injEq,Addr.mk.injEq,and_true] at hg
  subst hg
  have e : cur = cur.toList.toArray := rfl
  have hsz : cur.toList.length = cap := by
   have : cur.toList.length = cur.size := rfl
   rw [this,hs2]; exact Nat.mul_one _
  refine store_one hT (cs := cur.toList) (by rw [← e]; exact hc) (o := 0 + i * 1) (v := i64 v) rfl hs (by omega) rfl fun w' fw gw sw => k w' ?_ gw
  unfold OwnS World.ownsRow
  have ht : cur.toList.take (l.length * 1) = l.flatMap natE.enc := ht
  refine ⟨by rw [flat_len],.inr ⟨g,cap,_,rfl,hB,fw,by rw [List.length_set]; exact hl,hm,?_,?_⟩⟩
  ·show (cur.toList.set (0 + i * 1) (i64 v)).length = _
   rw [List.length_set]; exact hs2
  ·show (cur.toList.set (0 + i * 1) (i64 v)).take ((l.set i v).length * 1) = _
   rw [Nat.mul_one,Nat.zero_add,Nat.mul_one,List.length_set,List.take_set,← Nat.mul_one l.length,ht,nat_flat,nat_flat]
   unfold rowI
   rw [List.map_set]
theorem ext_mem {before : Nat → Nat} : ∀ (m left : Nat) (l : List Nat),∀ x ∈ extR before m left l,∀ a ∈ x,a ∈ l ∨ a ∈ els left := by
 intro m
 induction m with
 | zero =>
  intro left l x hx a ha
  unfold extR at hx
  split at hx
  ·rw [List.mem_singleton.1 hx] at ha; exact .inl ha
  ·cases hx
 | succ m ih =>
  intro left l x hx a ha
  unfold extR at hx
  split at hx
  ·rw [List.mem_singleton.1 hx] at ha; exact .inl ha
  ·obtain ⟨b,hb,hx⟩ := List.mem_flatMap.1 hx
   split at hx
   ·rcases ih _ _ x hx a ha with h | h
    ·rcases List.mem_append.1 h with h | h
     ·exact .inl h
     ·rw [List.mem_singleton.1 h]; exact .inr hb
    ·refine .inr ?_
     unfold els at h ⊢
     rw [List.mem_filter] at h ⊢
     refine ⟨h.1,?_⟩
     have h2 := h.2
     unfold lessM at h2
     rw [Nat.testBit_and,Bool.and_eq_true] at h2
     exact h2.1
   ·cases hx
theorem ord_mem {r : RelD} {n : Nat} (hr : r.n = n) (hn : n ≤ 64) {x : List Nat} (h : x ∈ ordR r) {a : Nat} (ha : a ∈ x) : a < n := by
 unfold ordR at h
 split at h
 ·rcases ext_mem _ _ _ x h a ha with h | h
  ·cases h
  ·rw [allM_eq,hr,els_all hn] at h
   exact List.mem_range.1 h
 ·cases h
abbrev crs (n : Nat) : RelD := crossR n 1 (lessM (allM n) 1)
theorem crs_ok : ∀ n,n ≤ 48 → okR (crs n) = true := by
 intro n hn
 have h : (List.range 49).all (fun n => okR (crs n)) = true := by kernel_rfl
 rw [List.all_eq_true] at h
 exact h n (List.mem_range.2 (by omega))
theorem allM_lt (n : Int) : allM n < 2 ^ 64 := allN_lt n
theorem crs_wrd (n : Nat) : WrdR (crs n).to := fun i _ => by
 show (if i < n then (if Nat.testBit 1 i then lessM (allM n) 1 &&& allM n else 0) else 0) < 2 ^ 64
 split
 ·split
  ·exact Nat.lt_of_le_of_lt Nat.and_le_right (allM_lt n)
  ·decide
 ·decide
def rowG (ws : List Nat) (o : List Nat) : List Nat := o.map fun k => ws.getD k 0
theorem row_mid {ws o : List Nat} {i : Nat} (hi : i < o.length) (h : i < (rowG ws (o.take i) ++ o.drop i).length) : (rowG ws (o.take i) ++ o.drop i)[i] = o[i] := by
 have hl : (rowG ws (o.take i)).length = i := by unfold rowG; rw [List.length_map,List.length_take,Nat.min_eq_left (by omega)]
 have h2 : (rowG ws (o.take i) ++ o.drop i)[i]? = o[i]? := by
  rw [List.getElem?_append_right (by omega),hl,Nat.sub_self,List.getElem?_drop,Nat.add_zero]
 rw [List.getElem?_eq_getElem h,List.getElem?_eq_getElem hi] at h2
 exact Option.some.inj h2
theorem row_next {ws o : List Nat} {i : Nat} (hi : i < o.length) (ho : o[i] < ws.length) : (rowG ws (o.take i) ++ o.drop i).set i ws[o[i]] = rowG ws (o.take (i + 1)) ++ o.drop (i + 1) := by
 have hl : (rowG ws (o.take i)).length = i := by unfold rowG; rw [List.length_map,List.length_take,Nat.min_eq_left (by omega)]
 rw [List.set_append_right _ _ (by omega),hl,Nat.sub_self,← List.getElem_cons_drop hi,List.set_cons_zero,List.take_succ_eq_append_getElem hi]
 unfold rowG
 rw [List.map_append,List.append_assoc,List.map_cons,List.map_nil,List.getD_eq_getElem?_getD,List.getElem?_eq_getElem ho]; rfl
section
variable {q : Option Addr} {c : Nat} {ws : List Nat} {w : World}
theorem orders_c (hl : SlR natE w q ws) (hn : ws.length ≤ 48) (hT : Tz64M w) :
  Calls Tryz.prog 107 #[.slice q ws.length c] w fun e w' => (∃ (xs : List (List Nat × Option Addr × Nat)) (p : Option Addr) (c' : Nat),e = .returned (.slice p xs.length c') ∧ xs.map (·.1) = rankR ws ∧ OwnS natLE 95 w.heap.size w' p c' xs ∧ ∀ x ∈ xs,OwnS natE 3 w.heap.size w' x.2.1 x.2.2 x.1) ∧ Below w.heap.size w w' := by
 refine calls_of_M (S := sg 44) (sgOk _) (args := [.slice q ws.length c]) (.s .p (.s .p (.c .p .p))) Tryz.func107 rfl rfl (Nat.le_of_ble_eq_true rfl) rfl ?_
 obtain ⟨B,hB⟩ : ∃ B,B = w.heap.size := ⟨_,rfl⟩
 refine ⟨List (List Nat × Option Addr × Nat) × Option Addr × Nat,fun s => ⟨[(0,.slice q ws.length c),(4,.slice s.2.1 s.1.length s.2.2)],[]⟩,fun s X => (rankR ws = (s.1.map (·.1)).map (rowG ws) ∧ AscB s.1 ∧ s.1.length ≤ 10000 ∧ ∀ x ∈ s.1,x.1.length ≤ 64 ∧ ∀ a ∈ x.1,a < ws.length) ∧ OwnS natLE 95 B X s.2.1 s.2.2 s.1 ∧ (∀ x ∈ s.1,OwnS natE 3 B X x.2.1 x.2.2 x.1) ∧ Below w.heap.size w X,?_,?_⟩
 ·refine Calls.mono All_c ?_
  rintro e _ ⟨rfl,rfl⟩
  refine ⟨_,w64_less (allN_lt _) (by decide : 1 < 2 ^ 64),?_⟩
  refine Calls.mono (Cross_c (n := ws.length) (a := 1) (b := lessN (allN ws.length) 1) hn (by decide) (lessN_lt (allN_lt _))) ?_
  rintro e X ⟨rfl,hbX⟩
  refine Calls.mono (Orders_c (r := crs ws.length) (m := 10000) (crs_wrd _) (hT.below hbX) (Nat.le_refl _) (crs_ok _ hn)) ?_
  rintro e Y ⟨⟨hm,xs,p,c',rfl,hxs,hasc,ho,hx⟩ | ⟨hm,rfl⟩,hbY⟩
  ·refine ⟨(xs,p,c'),⟨.cons rfl (.cons rfl .nil),rfl⟩,⟨?_,hasc,?_,fun x hx => ?_⟩,ho.lower (by rw [hB]; exact hbX.size),fun x h => (hx x h).lower (by rw [hB]; exact hbX.size),hbX.trans (hbY.mono hbX.size)⟩
   ·show rankR ws = (xs.map (·.1)).map (rowG ws)
    rw [hxs]
    unfold rankR
    exact if_pos hm
   ·show xs.length ≤ 10000
    rw [← hxs,List.length_map] at hm; exact hm
   ·have hmem : x.1 ∈ ordR (crs ws.length) := by rw [← hxs]; exact List.mem_map.2 ⟨x,hx,rfl⟩
    exact ⟨ord_len hmem,fun a ha => ord_mem rfl (by omega) hmem ha⟩
  ·refine ⟨([],none,0),⟨.cons rfl (.cons rfl .nil),rfl⟩,⟨?_,List.Pairwise.nil,Nat.zero_le _,fun x hx => (by cases hx)⟩,OwnS.nil,fun x hx => (by cases hx),hbX.trans (hbY.mono hbX.size)⟩
   show rankR ws = []
   unfold rankR
   exact if_neg (by show ¬ (ordR (crs ws.length)).length ≤ 10000; omega)
 rintro ⟨xs,p,c'⟩ X ⟨⟨hrk,hasc,hxl,hxx⟩,ho,hx,hbX⟩
 dsimp only at hrk hasc hxl hxx ho hx ⊢
 have hbs := hbX.size
 refine ⟨Nat,fun k => ⟨[(0,.slice q ws.length c),(4,.slice p xs.length c'),(21,.slice p xs.length c'),(22,i64 xs.length),(23,i64 (k : Nat))],[]⟩,
  fun k Z => k ≤ xs.length ∧ OwnS natLE 95 B Z p c' xs ∧ (∀ x ∈ xs.take k,OwnS natE 3 B Z x.2.1 x.2.2 (rowG ws x.1)) ∧ (∀ x ∈ xs.drop k,OwnS natE 3 B Z x.2.1 x.2.2 x.1) ∧ Below w.heap.size w Z,fun k => xs.length - k,0,
  ⟨.cons rfl (.cons rfl (.cons rfl (.cons rfl (.cons rfl .nil)))),rfl⟩,⟨Nat.zero_le _,ho,fun x h => (by rw [List.take_zero] at h; cases h),fun x h => hx x h,hbX⟩,?_⟩
 clear ho hx hbX hbs
 rintro k Z ⟨hk,ho,htk,hdr,hbZ⟩
 have hbs := hbZ.size
 refine And.intro (fun hc => ?_) (fun hc => ?_)
 ·have hc : (k : Int) < (xs.length : Int) := of_decide_eq_true hc
  have hkl : k < xs.length := by omega
  obtain ⟨x,hxk⟩ : ∃ x,xs[k] = x := ⟨_,rfl⟩
  have hxm : x ∈ xs := by rw [← hxk]; exact List.getElem_mem hkl
  obtain ⟨hx64,hxa⟩ := hxx x hxm
  have hsplit : xs = xs.take k ++ x :: xs.drop (k + 1) := by rw [← hxk,List.getElem_cons_drop,List.take_append_drop]
  have hdrop : xs.drop k = x :: xs.drop (k + 1) := by rw [← hxk,List.getElem_cons_drop]
  have hox : OwnS natE 3 B Z x.2.1 x.2.2 x.1 := hdr x (by rw [hdrop]; simp)
  obtain ⟨bp,op,hpe,hlp,hat⟩ := ho.row.at hkl
  subst hpe
  refine ⟨k,rfl,hkl,?_⟩
  refine ⟨.slice x.2.1 x.1.length x.2.2,by rw [← hxk]; exact cells_at (hat k hkl) (i := 0) rfl,?_⟩
  refine ⟨Nat,fun i => ⟨[(0,.slice q ws.length c),(4,.slice (some ⟨bp,op,none⟩) xs.length c'),(7,.slice x.2.1 x.1.length x.2.2),(21,.slice (some ⟨bp,op,none⟩) xs.length c'),(22,i64 xs.length),(23,i64 (k : Nat)),(27,.slice x.2.1 x.1.length x.2.2),(28,i64 x.1.length),(29,i64 (i : Nat))],[]⟩,
   fun i V => i ≤ x.1.length ∧ OwnS natE 3 B V x.2.1 x.2.2 (rowG ws (x.1.take i) ++ x.1.drop i) ∧ Z.grownBy V (x.2.1.map Addr.block),fun i => x.1.length - i,0,
   ⟨.cons rfl (.cons rfl (.cons rfl (.cons rfl (.cons rfl (.cons rfl (.cons rfl (.cons rfl (.cons rfl .nil)))))))),rfl⟩,⟨Nat.zero_le _,hox,grown_refl _ _⟩,?_⟩
  rintro i V ⟨hi,hoV,gV⟩
  refine And.intro (fun hc => ?_) (fun hc => ?_)
  ·have hc : (i : Int) < (x.1.length : Int) := of_decide_eq_true hc
   have hil : i < x.1.length := by omega
   have hlen : (rowG ws (x.1.take i) ++ x.1.drop i).length = x.1.length := by
    unfold rowG
    simp; omega
   have hgi : (rowG ws (x.1.take i) ++ x.1.drop i)[i]'(by omega) = x.1[i] := by
    exact row_mid hil (by omega)
   obtain ⟨b',o',hqe,hlq,hat'⟩ := hoV.row.at (i := i) (by omega)
   have hao := hxa x.1[i] (List.getElem_mem hil)
   obtain ⟨bw,ow,hwe,hlw,hatw⟩ := hl.at hao
   subst hwe
   have hq0 : ∃ g,x.2.1 = some ⟨g,0,none⟩ := by
    rcases hoV.inv with ⟨h,_⟩ | ⟨g,cur,h,_⟩
    ·rw [h] at hqe; cases hqe
    ·exact ⟨g,h⟩
   obtain ⟨g,hg⟩ := hq0
   have hbo : b' = g ∧ o' = 0 := by rw [hg] at hqe; simpa using hqe.symm
   obtain ⟨rfl,rfl⟩ := hbo
   rw [hg] at hoV gV ⊢
   have hBg := (own_at hoV rfl).1
   refine ⟨i,rfl,hil,?_⟩
   refine ⟨i64 x.1[i],by have := cells_at (hat' i (by omega)) (i := 0) (v := i64 x.1[i]) (by rw [hgi]; rfl); exact this,?_⟩
   refine ⟨x.1[i],rfl,hao,?_⟩
   have hVw : V.heap[bw]? = w.heap[bw]? := (gV.block bw (by omega) (by have : B ≤ b' := hBg; simp; omega)).trans (hbZ.block bw hlw)
   refine ⟨i64 ws[x.1[i]],cells_at (cells_same hVw (hatw _ hao)) (i := 0) rfl,?_⟩
   refine ⟨i,rfl,hil,?_⟩
   refine own_set (i := i) (v := ws[x.1[i]]) (ttOk.get 3 _ rfl) rfl hoV (by omega) fun V' oV' gV' => ?_
   refine ⟨((i + 1 : Nat) : Int),(wrap_i64 (by omega)).trans (by omega),?_⟩
   refine ⟨i + 1,⟨.cons rfl (.cons rfl (.cons rfl (.cons rfl (.cons rfl (.cons rfl (.cons rfl (.cons rfl (.cons rfl .nil)))))))),rfl⟩,⟨hil,?_,grown_trans gV gV'⟩,by show x.1.length - (i + 1) < x.1.length - i; omega⟩
   have e : (rowG ws (x.1.take i) ++ x.1.drop i).set i ws[x.1[i]] = rowG ws (x.1.take (i + 1)) ++ x.1.drop (i + 1) := row_next hil hao
   rw [e] at oV'
   exact oV'
  ·have hc : ¬ (i : Int) < (x.1.length : Int) := of_decide_eq_false hc
   obtain rfl : i = x.1.length := by omega
   rw [List.take_length,List.drop_length,List.append_nil] at hoV
   have keepI : ∀ y : List Nat × Option Addr × Nat,∀ l',OwnS natE 3 B Z y.2.1 y.2.2 l' → (∀ a b,x.2.1 = some a → y.2.1 = some b → a.block ≠ b.block) → OwnS natE 3 B V y.2.1 y.2.2 l' := fun y l' hy hne => hy.same fun b hb => gV.block _ (own_at hy hb).2.1 (by
    intro e
    cases hx1 : x.2.1 with
    | none => rw [hx1] at e; cases e
    | some a =>
     rw [hx1] at e
     simp only [Option.map_some,Option.some.injEq] at e
     exact hne a b hx1 hb e.symm)
   unfold AscB at hasc
   rw [hsplit,List.pairwise_append,List.pairwise_cons] at hasc
   obtain ⟨_,⟨hA1,_⟩,hA2⟩ := hasc
   refine ⟨((k + 1 : Nat) : Int),(wrap_i64 (by omega)).trans (by omega),?_⟩
   refine ⟨k + 1,⟨.cons rfl (.cons rfl (.cons rfl (.cons rfl (.cons rfl .nil)))),rfl⟩,⟨hkl,?_,fun y hy => ?_,fun y hy => ?_,?_⟩,by show xs.length - (k + 1) < xs.length - k; omega⟩
   ·refine ho.same fun a ha => gV.block _ (own_at ho ha).2.1 fun e => ?_
    cases hx1 : x.2.1 with
    | none => rw [hx1] at e; cases e
    | some a2 =>
     rw [hx1] at e
     simp only [Option.map_some,Option.some.injEq] at e
     obtain ⟨_,_,c1,h1⟩ := own_at ho ha
     obtain ⟨_,_,c2,h2⟩ := own_at hox hx1
     rw [← e,h1] at h2
     simp at h2
   ·rw [List.take_succ_eq_append_getElem hkl,hxk] at hy
    rcases List.mem_append.1 hy with hy | hy
    ·exact keepI y _ (htk y hy) fun a b ha hb e => by
      have := hA2 y hy x (by simp) b a hb ha
      omega
    ·rw [List.mem_singleton.1 hy]
     exact hoV
   ·exact keepI y _ (hdr y (by rw [hdrop]; exact List.mem_cons_of_mem _ hy)) fun a b ha hb e => by
     have := hA1 y hy a b ha hb
     omega
   ·cases hx1 : x.2.1 with
    | none =>
     rw [hx1] at gV
     exact hbZ.trans ⟨gV.os,gV.tape,gV.output,gV.size,fun j hj => gV.block j (by omega) (fun e => by cases e)⟩
    | some a =>
     rw [hx1] at gV
     exact hbZ.trans (below_grown gV hbs (by have := (own_at hox hx1).1; omega))
 ·have hc : ¬ (k : Int) < (xs.length : Int) := of_decide_eq_false hc
  obtain rfl : k = xs.length := by omega
  rw [List.take_length] at htk
  refine ⟨⟨xs.map fun x => (rowG ws x.1,x.2),p,c',by rw [List.length_map]; rfl,?_,?_,fun y hy => ?_⟩,hbZ⟩
  ·rw [hrk,List.map_map,List.map_map]; rfl
  ·rw [← hB]
   have e1 : (xs.map fun x => (rowG ws x.1,x.2)).flatMap natLE.enc = xs.flatMap natLE.enc := by
    rw [List.flatMap_map]
    congr 1
    funext x
    show [Value.slice x.2.1 (rowG ws x.1).length x.2.2] = [Value.slice x.2.1 x.1.length x.2.2]
    unfold rowG
    rw [List.length_map]
   unfold OwnS at ho ⊢
   rw [e1,List.length_map]
   exact ho
  ·obtain ⟨x,hx,rfl⟩ := List.mem_map.1 hy
   rw [← hB]
   exact htk x hx
end
end Go.Proofs.YtkpcgpmimejimaaGreatDoor
namespace Go.Proofs.YtkpcgpmimejimaaGreatDoor
open Go.Vc Go.RowKit Go.Sei
def exC (x : ExD) (q : Option Addr) (c : Nat) : List Value := .slice q x.ev.length c :: (relC x.po ++ (relC x.rf ++ (relC x.co ++ (relC x.dt ++ (relC x.ct ++ (relC x.rm ++ (seg 32 (fun i => u8 (x.regs i)) ++ seg 6 (fun i => u8 (x.mem i)))))))))
theorem exC_len (x : ExD) (q : Option Addr) (c : Nat) : (exC x q c).length = 333 := by
 unfold exC
 simp only [List.length_cons,List.length_append,relC_len,seg_len]
theorem exC_one (x : ExD) (q : Option Addr) (c : Nat) : (exC x q c).all Value.oneCell' = true := by
 unfold exC
 rw [List.all_cons,List.all_append,List.all_append,List.all_append,List.all_append,List.all_append,List.all_append,List.all_append,relC_one,relC_one,relC_one,relC_one,relC_one,relC_one,seg_one fun _ => rfl,seg_one fun _ => rfl]; rfl
section
variable (x : ExD) (q : Option Addr) (c : Nat) (S : List Value)
theorem ex_po : ∃ A Z,A.length = 1 ∧ ∀ r,exC { x with po := r } q c ++ S = A ++ (relC r ++ Z) :=
 ⟨.slice q x.ev.length c :: [],(relC x.rf ++ (relC x.co ++ (relC x.dt ++ (relC x.ct ++ (relC x.rm ++ (seg 32 (fun i => u8 (x.regs i)) ++ (seg 6 (fun i => u8 (x.mem i)) ++ S))))))),by simp only [List.length_cons,List.length_nil,List.length_append,relC_len],fun r => by simp only [exC,List.append_assoc,List.cons_append,List.nil_append]⟩
theorem ex_rf : ∃ A Z,A.length = 50 ∧ ∀ r,exC { x with rf := r } q c ++ S = A ++ (relC r ++ Z) :=
 ⟨.slice q x.ev.length c :: relC x.po,(relC x.co ++ (relC x.dt ++ (relC x.ct ++ (relC x.rm ++ (seg 32 (fun i => u8 (x.regs i)) ++ (seg 6 (fun i => u8 (x.mem i)) ++ S)))))),by simp only [List.length_cons,List.length_nil,List.length_append,relC_len],fun r => by simp only [exC,List.append_assoc,List.cons_append,List.nil_append]⟩
theorem ex_co : ∃ A Z,A.length = 99 ∧ ∀ r,exC { x with co := r } q c ++ S = A ++ (relC r ++ Z) :=
 ⟨.slice q x.ev.length c :: (relC x.po ++ relC x.rf),(relC x.dt ++ (relC x.ct ++ (relC x.rm ++ (seg 32 (fun i => u8 (x.regs i)) ++ (seg 6 (fun i => u8 (x.mem i)) ++ S))))),by simp only [List.length_cons,List.length_nil,List.length_append,relC_len],fun r => by simp only [exC,List.append_assoc,List.cons_append,List.nil_append]⟩
theorem ex_dt : ∃ A Z,A.length = 148 ∧ ∀ r,exC { x with dt := r } q c ++ S = A ++ (relC r ++ Z) :=
 ⟨.slice q x.ev.length c :: (relC x.po ++ (relC x.rf ++ relC x.co)),(relC x.ct ++ (relC x.rm ++ (seg 32 (fun i => u8 (x.regs i)) ++ (seg 6 (fun i => u8 (x.mem i)) ++ S)))),by simp only [List.length_cons,List.length_nil,List.length_append,relC_len],fun r => by simp only [exC,List.append_assoc,List.cons_append,List.nil_append]⟩
theorem ex_ct : ∃ A Z,A.length = 197 ∧ ∀ r,exC { x with ct := r } q c ++ S = A ++ (relC r ++ Z) :=
 ⟨.slice q x.ev.length c :: (relC x.po ++ (relC x.rf ++ (relC x.co ++ relC x.dt))),(relC x.rm ++ (seg 32 (fun i => u8 (x.regs i)) ++ (seg 6 (fun i => u8 (x.mem i)) ++ S))),by simp only [List.length_cons,List.length_nil,List.length_append,relC_len],fun r => by simp only [exC,List.append_assoc,List.cons_append,List.nil_append]⟩
theorem ex_rm : ∃ A Z,A.length = 246 ∧ ∀ r,exC { x with rm := r } q c ++ S = A ++ (relC r ++ Z) :=
 ⟨.slice q x.ev.length c :: (relC x.po ++ (relC x.rf ++ (relC x.co ++ (relC x.dt ++ relC x.ct)))),(seg 32 (fun i => u8 (x.regs i)) ++ (seg 6 (fun i => u8 (x.mem i)) ++ S)),by simp only [List.length_cons,List.length_nil,List.length_append,relC_len],fun r => by simp only [exC,List.append_assoc,List.cons_append,List.nil_append]⟩
theorem ex_regs : ∃ A Z,A.length = 295 ∧ ∀ f,exC { x with regs := f } q c ++ S = A ++ (seg 32 (fun i => u8 (f i)) ++ Z) :=
 ⟨.slice q x.ev.length c :: (relC x.po ++ (relC x.rf ++ (relC x.co ++ (relC x.dt ++ (relC x.ct ++ relC x.rm))))),(seg 6 (fun i => u8 (x.mem i)) ++ S),by simp only [List.length_cons,List.length_append,relC_len],fun f => by simp only [exC,List.append_assoc,List.cons_append,List.nil_append]⟩
theorem ex_mem : ∃ A Z,A.length = 327 ∧ ∀ f,exC { x with mem := f } q c ++ S = A ++ (seg 6 (fun i => u8 (f i)) ++ Z) :=
 ⟨.slice q x.ev.length c :: (relC x.po ++ (relC x.rf ++ (relC x.co ++ (relC x.dt ++ (relC x.ct ++ (relC x.rm ++ seg 32 (fun i => u8 (x.regs i)))))))),S,by simp only [List.length_cons,List.length_append,relC_len,seg_len],fun f => by simp only [exC,List.append_assoc,List.cons_append,List.nil_append]⟩
theorem ex_ev (l : List Ev) (q' : Option Addr) (c' : Nat) : (exC x q c ++ S).set 0 (.slice q' l.length c') = exC { x with ev := l } q' c' ++ S := by
 unfold exC
 rw [List.cons_append,List.set_cons_zero,List.cons_append]
theorem ex_ev0 : (exC x q c ++ S)[0]? = some (.slice q x.ev.length c) := rfl
end
theorem mix_get {x : ExD} {q : Option Addr} {c : Nat} {S : List Value} {i : Nat} {v : Value} (h : S[i]? = some v) : (exC x q c ++ S)[333 + i]? = some v := by
 rw [get_app (exC_len _ _ _)]; exact h
theorem mix_set {x : ExD} {q : Option Addr} {c : Nat} {S : List Value} {i : Nat} {v : Value} : (exC x q c ++ S).set (333 + i) v = exC x q c ++ S.set i v := set_app (exC_len _ _ _)
abbrev NatL := List Nat × Option Addr × Nat
abbrev slV (x : NatL) : Value := .slice x.2.1 x.1.length x.2.2
def rowL (l : List NatL) : List Value := l.map slV
theorem natL_flat : ∀ l : List NatL,l.flatMap natLE.enc = rowL l
 | [] => rfl
 | a :: l => by
  show slV a :: l.flatMap natLE.enc = slV a :: rowL l
  rw [natL_flat l]
abbrev RowLH (Z : World) (g : Nat) (l : List NatL) : Prop := Z.heap[g]? = some (.cells (rowL l).toArray 95 (0,0))
theorem RowLH.sl {Z : World} {g : Nat} {l : List NatL} (h : RowLH Z g l) : SlR natLE Z (some ⟨g,0,none⟩) l :=
 SlR.of_cells (hlt h) (by rw [natL_flat]; exact cells_block h)
theorem RowLH.own {Z : World} {g B : Nat} {l : List NatL} (h : RowLH Z g l) (hB : B ≤ g) (hm : l.length ≤ maxLen) : OwnS natLE 95 B Z (some ⟨g,0,none⟩) l.length l := by
 unfold OwnS World.ownsRow
 have hz : (rowL l).length = l.length := by unfold rowL; rw [List.length_map]
 refine ⟨by rw [flat_len],.inr ⟨g,l.length,(rowL l).toArray,rfl,hB,h,Nat.le_refl _,hm,?_,?_⟩⟩
 ·show (rowL l).length = l.length * 1
  rw [hz,Nat.mul_one]
 ·show (rowL l).take (l.length * 1) = _
  rw [natL_flat,List.take_of_length_le (by rw [hz,Nat.mul_one]; exact Nat.le_refl _)]
structure Rows (B : Nat) (Z : World) (W : List NatL) : Prop where
 own : ∀ x ∈ W,OwnS natE 3 B Z x.2.1 x.2.2 x.1
 dis : ∀ (i j : Nat) (x y : NatL),W[i]? = some x → W[j]? = some y → i ≠ j → ∀ a b,x.2.1 = some a → y.2.1 = some b → a.block ≠ b.block
theorem Rows.same {B : Nat} {Z Y : World} {W : List NatL} (h : Rows B Z W) (hs : ∀ x ∈ W,∀ a,x.2.1 = some a → Y.heap[a.block]? = Z.heap[a.block]?) : Rows B Y W :=
 ⟨fun x hx => (h.own x hx).same (hs x hx),h.dis⟩
theorem Rows.nils (B : Nat) (Z : World) (n : Nat) : Rows B Z (List.replicate n ([],none,0)) := by
 refine ⟨fun x hx => ?_,fun i j x y hx hy _ a b ha _ => ?_⟩
 ·rw [List.eq_of_mem_replicate hx]; exact OwnS.nil
 ·have := List.mem_of_getElem? hx
  rw [List.eq_of_mem_replicate this] at ha
  cases ha
theorem Rows.set {B : Nat} {Z Y : World} {W : List NatL} {i : Nat} {x y : NatL} (h : Rows B Z W) (hi : W[i]? = some x) (ho : OwnS natE 3 B Y y.2.1 y.2.2 y.1) (hg : Z.grownBy Y (x.2.1.map Addr.block)) (hat : ∀ a,y.2.1 = some a → x.2.1 = some a ∨ Z.heap.size ≤ a.block) : Rows B Y (W.set i y) := by
 obtain ⟨hil,hxi⟩ := List.getElem?_eq_some_iff.1 hi
 have ne : ∀ (j : Nat) (z : NatL),W[j]? = some z → i ≠ j → ∀ b,z.2.1 = some b → Y.heap[b.block]? = Z.heap[b.block]? := fun j z hj hne b hb => by
  refine hg.block _ (own_at (h.own z (List.mem_of_getElem? hj)) hb).2.1 fun e => ?_
  cases hx1 : x.2.1 with
  | none => rw [hx1] at e; cases e
  | some a =>
   rw [hx1] at e
   simp only [Option.map_some,Option.some.injEq] at e
   exact h.dis i j x z hi hj hne a b hx1 hb e.symm
 have inv : ∀ (j : Nat) (z : NatL),(W.set i y)[j]? = some z → (i = j ∧ z = y) ∨ (i ≠ j ∧ W[j]? = some z) := fun j z hj => by
  by_cases e : i = j
  ·subst e
   rw [List.getElem?_set_self hil] at hj
   exact .inl ⟨rfl,(Option.some.inj hj).symm⟩
  ·rw [List.getElem?_set_ne e] at hj
   exact .inr ⟨e,hj⟩
 refine ⟨fun z hz => ?_,fun j k u v hu hv hjk a b ha hb => ?_⟩
 ·obtain ⟨j,hj⟩ := List.mem_iff_getElem?.1 hz
  rcases inv j z hj with ⟨_,rfl⟩ | ⟨hne,hj⟩
  ·exact ho
  ·exact (h.own z (List.mem_of_getElem? hj)).same (ne j z hj hne)
 ·rcases inv j u hu with ⟨e1,rfl⟩ | ⟨n1,hu'⟩ <;> rcases inv k v hv with ⟨e2,rfl⟩ | ⟨n2,hv'⟩
  ·omega
  ·rcases hat a ha with h1 | h1
   ·exact h.dis i k x v hi hv' n2 a b h1 hb
   ·have := (own_at (h.own v (List.mem_of_getElem? hv')) hb).2.1
    omega
  ·rcases hat b hb with h1 | h1
   ·exact h.dis j i u x hu' hi (fun e => n1 e.symm) a b ha h1
   ·have := (own_at (h.own u (List.mem_of_getElem? hu')) ha).2.1
    omega
  ·exact h.dis j k u v hu' hv' hjk a b ha hb
end Go.Proofs.YtkpcgpmimejimaaGreatDoor
