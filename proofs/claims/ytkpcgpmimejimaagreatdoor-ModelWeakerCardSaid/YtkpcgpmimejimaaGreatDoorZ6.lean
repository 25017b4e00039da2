/- Contracts: a condition as a whole; the locations of a program. Contracts: what is demanded of a program. Contracts: is a program right?. Contracts: the values of a program (when every list met is sorted and small). Contracts: the values of a program. Contracts: the choices of paths. Contracts: the candidate executions of a program. Plain: what is asked of a program, as a check; the law's own programs. Plain: the law's own programs, evaluated. Contracts: events read; relations and events compared; what stands first. Contracts: the events of an execution checked. Plain: bits of relations. Contracts: the sources of the reads checked. Contracts: the size of a set; a short list of numbers sorted by the sizes of rows. Contracts: the writes of a location put in order. Contracts: the coherence order checked. Contracts: the dependencies checked. -/
import Derived.Test.YtkpcgpmimejimaaGreatDoorZ5
import Derived.Test.YtkpcgpmimejimaaGreatDoorZ1
import Derived.Test.YtkpcgpmimejimaaGreatDoorZ4
set_option linter.unusedSimpArgs false
set_option linter.unusedVariables false
namespace Go.Proofs.YtkpcgpmimejimaaGreatDoor
open Go.Vc Go.RowKit Go.Sei
theorem Cond_c {B threads locs cap : Nat} {p : Option Addr} {c : Cnd} {w : World} (hB : B ≤ w.heap.size) (hk : KidsV B w p c.kids) :
  Calls Tryz.prog 125 #[.agg (cndCells c p cap).toArray,i64 threads,i64 locs] w fun e w' => e = .returned (.bool (condB threads locs 20 c)) ∧ Below w.heap.size w w' := by
 refine calls_of_E (S := sg 10) (sgOk _) (args := [.agg (cndCells c p cap).toArray,i64 threads,i64 locs]) Tryz.func125 rfl rfl (Nat.le_of_ble_eq_true rfl) rfl ?_
 have hb : Below w.heap.size w (w.alloc (.cells (cndCells c p cap).toArray 62)) := (Below.refl _ w).alloc (Nat.le_refl _) _
 have hn := hnew w (.cells (cndCells c p cap).toArray 62)
 refine Calls.mono (condRight_c (B := w.heap.size + 1) (by rw [World.size_alloc]; omega) 20 c w.heap.size 0 p cap (by omega) (by omega) (cells_block hn) ((hk.kept (hb.mono hB)).wider (by omega))) ?_
 rintro e _ ⟨rfl,rfl⟩
 exact ⟨rfl,hb⟩
theorem locsRight_c {g : Nat} {p : Prg} {p1 p2 p3 p4 : Option Addr} {c1 c2 c3 c4 B : Nat} {w : World} (hc : Cells w ⟨g,0,none⟩ (prgCells p p1 c1 p2 c2 p3 c3 p4 c4)) (hg : g < w.heap.size) (h1 : RowB namE B w p1 p.locs) (hB : B ≤ w.heap.size) (hcap : p.locs.length ≤ c1) (hl : PrgLen p) :
  Calls Tryz.prog 117 #[.pointer (some ⟨g,0,none⟩)] w fun e w' => e = .returned (.bool (locsB p)) ∧ Below w.heap.size w w' := by
 refine calls_of_M (S := sg 56) (sgOk _) (args := [.pointer (some ⟨g,0,none⟩)]) (.s .p (.c .p .p)) Tryz.func117 rfl rfl (Nat.le_of_ble_eq_true rfl) rfl ?_
 have hbd : Below w.heap.size w w.drew := (Below.refl _ w).drew
 have hcd : Cells w.drew ⟨g,0,none⟩ (prgCells p p1 c1 p2 c2 p3 c3 p4 c4) := cells_below hbd hc
 have h1d : SlR namE w.drew p1 p.locs := (h1.below (hbd.mono hB)).slr (Nat.le_trans hB hbd.size)
 have hln := hl.locs
 refine ⟨Unit,fun _ => ⟨[(0,.pointer (some ⟨g,0,none⟩))],[]⟩,fun _ X => (1 ≤ p.locs.length ∧ p.locs.length ≤ 6 ∧ p.init.length = p.locs.length) ∧ X = w.drew,?_,?_⟩
 ·refine DrawE.ord [] [0,1,2,3,4,5,6,7,8,9,10,11,12,13,14,15,16,17,18,19,20,21,22,23,24,25,26] (by kernel_rfl) ?_
  refine ⟨_,cells_at hcd (i := 1) rfl,?_⟩
  refine And.intro (fun ha => ?_) (fun ha => ?_)
  ·have ha : (p.locs.length : Int) < 1 := of_decide_eq_true ha
   refine brT ?_
   refine brT ?_
   exact ⟨rb (by unfold locsB; rw [decide_eq_false (by omega)]; rfl),hbd⟩
  ·have ha : ¬ (p.locs.length : Int) < 1 := of_decide_eq_false ha
   refine ⟨_,cells_at hcd (i := 1) rfl,?_⟩
   refine And.intro (fun hd => ?_) (fun hd => ?_)
   ·have hd : (6 : Int) < (p.locs.length : Int) := of_decide_eq_true hd
    refine brT ?_
    exact ⟨rb (by unfold locsB; rw [decide_eq_false (p := p.locs.length ≤ 6) (by omega)]; simp),hbd⟩
   ·have hd : ¬ (6 : Int) < (p.locs.length : Int) := of_decide_eq_false hd
    refine ⟨_,cells_at hcd (i := 2) rfl,?_⟩
    refine ⟨_,cells_at hcd (i := 1) rfl,?_⟩
    refine And.intro (fun he => ?_) (fun he => ?_)
    ·have he : (!decide ((p.init.length : Int) = (p.locs.length : Int))) = true := he
     have he : ¬ (p.init.length : Int) = (p.locs.length : Int) := by simpa using he
     exact ⟨rb (by unfold locsB; rw [decide_eq_false (p := p.init.length = p.locs.length) (by omega)]; simp),hbd⟩
    ·have he : (!decide ((p.init.length : Int) = (p.locs.length : Int))) = false := he
     have he : (p.init.length : Int) = (p.locs.length : Int) := by simpa using he
     exact ⟨(),⟨.cons rfl .nil,rfl⟩,⟨by omega,by omega,by omega⟩,rfl⟩
 rintro _ _ ⟨⟨l1,l6,li⟩,rfl⟩
 have hdef : locsB p = namesL [] p.locs := by unfold locsB; rw [decide_eq_true l1,decide_eq_true l6,decide_eq_true li]; rfl
 rw [hdef]
 refine ⟨_,cells_at hcd (i := 1) rfl,?_⟩
 refine ⟨Nat,fun k => ⟨[(0,.pointer (some ⟨g,0,none⟩)),(35,.slice p1 p.locs.length c1),(36,i64 p.locs.length),(37,i64 (k : Nat))],[]⟩,fun k X => k ≤ p.locs.length ∧ namesL (p.locs.take k) (p.locs.drop k) = namesL [] p.locs ∧ X = w.drew,fun k => p.locs.length - k,0,
  ⟨.cons rfl (.cons rfl (.cons rfl (.cons rfl .nil))),rfl⟩,⟨Nat.zero_le _,rfl,rfl⟩,?_⟩
 rintro k _ ⟨hk,hna,rfl⟩
 dsimp only at hk hna ⊢
 refine And.intro (fun hc2 => ?_) (fun hc2 => ?_)
 ·have hc2 : (k : Int) < (p.locs.length : Int) := of_decide_eq_true hc2
  have hkl : k < p.locs.length := by omega
  obtain ⟨b,o,rfl,hb,hat⟩ := h1d.at hkl
  have hbk : Below w.heap.size w w.drew := hbd
  refine ⟨k,rfl,hkl,?_⟩
  refine ⟨_,cells_at (hat k hkl) (i := 0) rfl,?_⟩
  have hs : p.locs[k].length ≤ 140737488351232 := hl.loc _ (List.getElem_mem _)
  have hstep : namesL [] p.locs = (nameL p.locs[k] && (!((p.locs.take k).any fun q => decide (q = p.locs[k])) && namesL (p.locs.take (k + 1)) (p.locs.drop (k + 1)))) := by
   rw [← hna,List.drop_eq_getElem_cons hkl,List.take_succ_eq_append_getElem hkl]; rfl
  refine Calls.mono (Name_c p.locs[k] hs _) ?_
  rintro e _ ⟨rfl,rfl⟩
  refine And.intro (fun h => ?_) (fun h => ?_)
  ·have h : (!nameL p.locs[k]) = true := h
   have h : nameL p.locs[k] = false := by simpa using h
   refine brT ?_
   exact ⟨rb (by rw [hstep,h]; rfl),hbd⟩
  ·have h : (!nameL p.locs[k]) = false := h
   have h : nameL p.locs[k] = true := by simpa using h
   refine ⟨_,cells_at hcd (i := 1) rfl,?_⟩
   refine ⟨k,rfl,by omega,?_⟩
   have hsub : SlR namE w.drew (cutBase (some ⟨b,o,none⟩) c1 0 1) (p.locs.take k) := SlR.sub h1d (lo := 0) (hi := k) (Nat.zero_le _) (by omega) hcap
   have htl : (p.locs.take k).length = k := by rw [List.length_take]; omega
   have hcn := Contains_c (cutBase (some ⟨b,o,none⟩) c1 0 1) (c1 - 0) (p.locs.take k) p.locs[k] w.drew hsub (by omega)
   rw [htl] at hcn
   refine Calls.mono hcn ?_
   rintro e _ ⟨rfl,rfl⟩
   refine And.intro (fun h5 => ?_) (fun h5 => ?_)
   ·have h5 : ((p.locs.take k).any fun q => decide (q = p.locs[k])) = true := h5
    exact ⟨rb (by rw [hstep,h5]; simp),hbd⟩
   ·have h5 : ((p.locs.take k).any fun q => decide (q = p.locs[k])) = false := h5
    refine ⟨_,(wrap_i64 (by omega)).trans rfl,?_⟩
    exact ⟨k + 1,⟨.cons rfl (.cons rfl (.cons rfl (.cons rfl .nil))),rfl⟩,⟨hkl,by rw [hstep,h,h5]; rfl,rfl⟩,by show p.locs.length - (k + 1) < p.locs.length - k; omega⟩
 ·have hc2 : ¬ (k : Int) < (p.locs.length : Int) := of_decide_eq_false hc2
  obtain rfl : k = p.locs.length := by omega
  rw [List.drop_length] at hna
  exact ⟨rb hna,hbd⟩
end Go.Proofs.YtkpcgpmimejimaaGreatDoor
namespace Go.Proofs.YtkpcgpmimejimaaGreatDoor
open Go.Vc Go.RowKit Go.Sei
structure DmV (B : Nat) (X : World) (g bx : Nat) (p : Prg) : Prop where
 hB : B ≤ X.heap.size
 hg : g < X.heap.size
 len : PrgLen p
 h : ∃ p1 c1 p2 c2 p3 c3 p4 c4,Cells X ⟨g,0,none⟩ (prgCells p p1 c1 p2 c2 p3 c3 p4 c4) ∧ RowB namE B X p1 p.locs ∧ RowB byteE B X p2 p.init ∧ ThrsV B X p3 p.threads ∧ KidsV B X p4 p.cond.kids ∧ p.locs.length ≤ c1
 b : X.heap[bx]? = some (.cells #[.pointer (some ⟨g,0,none⟩)] 130 (0,0))
 G : GlobC X
theorem DmV.below {B : Nat} {X Y : World} {g bx : Nat} {p : Prg} (h : DmV B X g bx p) (hb : Below X.heap.size X Y) : DmV B Y g bx p := by
 obtain ⟨p1,c1,p2,c2,p3,c3,p4,c4,h0,h1,h2,h3,h4,h5⟩ := h.h
 have hb' := hb.mono h.hB
 exact ⟨Nat.le_trans h.hB hb.size,Nat.lt_of_lt_of_le h.hg hb.size,h.len,⟨p1,c1,p2,c2,p3,c3,p4,c4,cells_below hb h0,h1.below hb',h2.below hb',h3.below hb',h4.kept hb',h5⟩,block_below hb h.b,h.G.below hb⟩
def rightV (sel : Bool) (bx : Nat) : Value := match sel with
 | false => .func (.func 119) #[] #[]
 | true => .func (.func 121) #[] #[.pointer (some ⟨bx,0,none⟩)]
def rightK (sel : Bool) (p : Prg) (l : List InsD) : Bool := match sel with
 | false => decide (l.length ≤ 12)
 | true => threadB l p.locs.length
section
variable {B g bx : Nat} {p : Prg} {w : World}
theorem short_c (q : Option Addr) (cap : Nat) (l : List InsD) : Calls Tryz.prog 119 #[.slice q l.length cap] w fun e w' => e = .returned (.bool (decide (l.length ≤ 12))) ∧ w = w' := by
 refine calls_of_E (S := sg 6) (sgOk _) (args := [.slice q l.length cap]) Tryz.func119 rfl rfl (Nat.le_of_ble_eq_true rfl) rfl ?_
 refine ⟨rb ?_,rfl⟩
 rw [decide_eq_decide]
 show ((l.length : Int) ≤ 12) ↔ _
 omega
theorem thread_c (h : DmV B w g bx p) {q : Option Addr} {cap : Nat} {l : List InsD} (hl : SlR insE w q l) (hn : l.length ≤ 140737488351232) :
  Calls Tryz.prog 121 #[.slice q l.length cap,.pointer (some ⟨bx,0,none⟩)] w fun e w' => e = .returned (.bool (threadB l p.locs.length)) ∧ Below w.heap.size w w' := by
 refine calls_of_E (S := sg 11) (sgOk _) (args := [.slice q l.length cap,.pointer (some ⟨bx,0,none⟩)]) Tryz.func121 rfl rfl (Nat.le_of_ble_eq_true rfl) rfl ?_
 obtain ⟨p1,c1,p2,c2,p3,c3,p4,c4,h0,h1,h2,h3,h4,h5⟩ := h.h
 refine ⟨_,cells_at (cells_block h.b) (i := 0) rfl,?_⟩
 refine ⟨_,cells_at h0 (i := 1) rfl,?_⟩
 refine Calls.mono (Thread_c hl h.G hn) ?_
 rintro e V ⟨rfl,hb⟩
 exact ⟨rfl,hb⟩
theorem every_c (sel : Bool) (h : DmV B w g bx p) : Calls Tryz.prog 113 #[rightV sel bx,.pointer (some ⟨bx,0,none⟩)] w fun e w' => e = .returned (.bool (p.threads.all (rightK sel p))) ∧ Below w.heap.size w w' := by
 refine calls_of_E (S := sg 20) (sgOk _) (args := [rightV sel bx,.pointer (some ⟨bx,0,none⟩)]) Tryz.func113 rfl rfl (Nat.le_of_ble_eq_true rfl) rfl ?_
 obtain ⟨p1,c1,p2,c2,p3,c3,p4,c4,h0,h1,h2,h3,h4,h5⟩ := h.h
 obtain ⟨xs,hxs,hr,hx⟩ := h3
 have hlen : p.threads.length = xs.length := by rw [← hxs,List.length_map]
 have hln := h.len.threads
 refine ⟨_,cells_at (cells_block h.b) (i := 0) rfl,?_⟩
 refine ⟨_,cells_at h0 (i := 3) rfl,?_⟩
 refine ⟨Nat,fun k => ⟨[(0,rightV sel bx),(1,.pointer (some ⟨bx,0,none⟩)),(9,.slice p3 p.threads.length c3),(10,i64 p.threads.length),(11,i64 (k : Nat))],[]⟩,fun k X => k ≤ p.threads.length ∧ (∀ l ∈ p.threads.take k,rightK sel p l = true) ∧ Below w.heap.size w X,fun k => p.threads.length - k,0,
  ⟨.cons rfl (.cons rfl (.cons rfl (.cons rfl (.cons rfl .nil)))),rfl⟩,⟨Nat.zero_le _,by simp,Below.refl _ _⟩,?_⟩
 rintro k X ⟨hk,hall,hbX⟩
 dsimp only at hk hall ⊢
 have hX := h.below hbX
 refine And.intro (fun hc => ?_) (fun hc => ?_)
 ·have hc : (k : Int) < (p.threads.length : Int) := of_decide_eq_true hc
  have hkl : k < p.threads.length := by omega
  have hkx : k < xs.length := by omega
  have e1 : p.threads[k] = xs[k].1 := by simp [← hxs]
  obtain ⟨b,o,hp3,hat⟩ := hr.get
  rcases hp3 with hp3 | rfl
  ·omega
  refine ⟨k,rfl,hkl,?_⟩
  obtain ⟨hb1,ha1⟩ := hat k hkx
  refine ⟨_,cells_at (cells_belowB (hbX.mono h.hB) hb1 ha1) (i := 0) rfl,?_⟩
  have hrow : SlR insE X xs[k].2.1 xs[k].1 := ((hx _ (List.getElem_mem hkx)).below (hbX.mono h.hB)).slr hX.hB
  have hln1 : xs[k].1.length ≤ 140737488351232 := by rw [← e1]; exact h.len.thread _ (List.getElem_mem _)
  have hfin : rightK sel p xs[k].1 = false → p.threads.all (rightK sel p) = false := fun hf => by
   rw [List.all_eq_false]
   exact ⟨p.threads[k],List.getElem_mem _,by rw [e1,hf]; simp⟩
  have hgo : rightK sel p xs[k].1 = true → ∀ l ∈ p.threads.take (k + 1),rightK sel p l = true := fun ht => by
   rw [List.take_succ_eq_append_getElem hkl]
   intro x hx
   rcases List.mem_append.1 hx with hx | hx
   ·exact hall x hx
   ·simp only [List.mem_singleton] at hx
    rw [hx,e1]; exact ht
  cases sel with
  | false =>
   refine Calls.mono (short_c xs[k].2.1 xs[k].2.2 xs[k].1) ?_
   rintro e _ ⟨rfl,rfl⟩
   refine And.intro (fun hb => ?_) (fun hb => ?_)
   ·have hb : (!rightK false p xs[k].1) = true := hb
    exact ⟨rb (hfin (by simpa using hb)).symm,hbX⟩
   ·have hb : (!rightK false p xs[k].1) = false := hb
    refine ⟨_,(wrap_i64 (by omega)).trans rfl,?_⟩
    exact ⟨k + 1,⟨.cons rfl (.cons rfl (.cons rfl (.cons rfl (.cons rfl .nil)))),rfl⟩,⟨hkl,hgo (by simpa using hb),hbX⟩,by show p.threads.length - (k + 1) < p.threads.length - k; omega⟩
  | true =>
   refine Calls.mono (thread_c hX (cap := xs[k].2.2) hrow hln1) ?_
   rintro e Y ⟨rfl,hbY⟩
   refine And.intro (fun hb => ?_) (fun hb => ?_)
   ·have hb : (!rightK true p xs[k].1) = true := hb
    exact ⟨rb (hfin (by simpa using hb)).symm,hbX.trans (hbY.mono hbX.size)⟩
   ·have hb : (!rightK true p xs[k].1) = false := hb
    refine ⟨_,(wrap_i64 (by omega)).trans rfl,?_⟩
    exact ⟨k + 1,⟨.cons rfl (.cons rfl (.cons rfl (.cons rfl (.cons rfl .nil)))),rfl⟩,⟨hkl,hgo (by simpa using hb),hbX.trans (hbY.mono hbX.size)⟩,by show p.threads.length - (k + 1) < p.threads.length - k; omega⟩
 ·have hc : ¬ (k : Int) < (p.threads.length : Int) := of_decide_eq_false hc
  obtain rfl : k = p.threads.length := by omega
  rw [List.take_length] at hall
  exact ⟨rb (List.all_eq_true.2 hall).symm,hbX⟩
theorem dem1_c (h : DmV B w g bx p) : Calls Tryz.prog 114 #[.pointer (some ⟨bx,0,none⟩)] w fun e w' => e = .returned (.bool (isWordL p.name)) ∧ Below w.heap.size w w' := by
 refine calls_of_E (S := sg 7) (sgOk _) (args := [.pointer (some ⟨bx,0,none⟩)]) Tryz.func114 rfl rfl (Nat.le_of_ble_eq_true rfl) rfl ?_
 obtain ⟨p1,c1,p2,c2,p3,c3,p4,c4,h0,h1,h2,h3,h4,h5⟩ := h.h
 refine ⟨_,cells_at (cells_block h.b) (i := 0) rfl,?_⟩
 refine ⟨_,cells_at h0 (i := 0) rfl,?_⟩
 refine Calls.mono (isWord_c p.name h.len.name w) ?_
 rintro e V ⟨rfl,hb⟩
 exact ⟨rfl,hb⟩
theorem dem2_c (h : DmV B w g bx p) : Calls Tryz.prog 116 #[.pointer (some ⟨bx,0,none⟩)] w fun e w' => e = .returned (.bool (locsB p)) ∧ Below w.heap.size w w' := by
 refine calls_of_E (S := sg 4) (sgOk _) (args := [.pointer (some ⟨bx,0,none⟩)]) Tryz.func116 rfl rfl (Nat.le_of_ble_eq_true rfl) rfl ?_
 obtain ⟨p1,c1,p2,c2,p3,c3,p4,c4,h0,h1,h2,h3,h4,h5⟩ := h.h
 refine ⟨_,cells_at (cells_block h.b) (i := 0) rfl,?_⟩
 refine Calls.mono (locsRight_c h0 h.hg h1 h.hB h5 h.len) ?_
 rintro e V ⟨rfl,hb⟩
 exact ⟨rfl,hb⟩
def evV (bx : Nat) : Value := .func (.func 113) #[] #[.pointer (some ⟨bx,0,none⟩)]
theorem dem3_c (h : DmV B w g bx p) {ev : Nat} (hev : w.heap[ev]? = some (.cells #[evV bx] 178 (0,0))) : Calls Tryz.prog 118 #[.pointer (some ⟨bx,0,none⟩),.pointer (some ⟨ev,0,none⟩)] w fun e w' => e = .returned (.bool (decide (1 ≤ p.threads.length) && (decide (p.threads.length ≤ 4) && p.threads.all fun l => decide (l.length ≤ 12)))) ∧ Below w.heap.size w w' := by
 refine calls_of_E (S := sg 21) (sgOk _) (args := [.pointer (some ⟨bx,0,none⟩),.pointer (some ⟨ev,0,none⟩)]) Tryz.func118 rfl rfl (Nat.le_of_ble_eq_true rfl) rfl ?_
 obtain ⟨p1,c1,p2,c2,p3,c3,p4,c4,h0,h1,h2,h3,h4,h5⟩ := h.h
 refine ⟨_,cells_at (cells_block h.b) (i := 0) rfl,?_⟩
 refine ⟨_,cells_at h0 (i := 3) rfl,?_⟩
 refine And.intro (fun ha => ?_) (fun ha => ?_)
 ·have ha : (1 : Int) ≤ (p.threads.length : Int) := of_decide_eq_true ha
  refine ⟨_,cells_at (cells_block h.b) (i := 0) rfl,?_⟩
  refine ⟨_,cells_at h0 (i := 3) rfl,?_⟩
  refine And.intro (fun hb => ?_) (fun hb => ?_)
  ·have hb : (p.threads.length : Int) ≤ 4 := of_decide_eq_true hb
   refine ⟨_,cells_at (cells_block hev) (i := 0) rfl,?_⟩
   refine Calls.mono (every_c false h) ?_
   rintro e V ⟨rfl,hbV⟩
   refine ⟨rb ?_,hbV⟩
   rw [decide_eq_true (by omega),decide_eq_true (by omega),Bool.true_and,Bool.true_and]; rfl
  ·have hb : ¬ (p.threads.length : Int) ≤ 4 := of_decide_eq_false hb
   exact ⟨rb (by rw [decide_eq_false (p := p.threads.length ≤ 4) (by omega)]; simp),Below.refl _ _⟩
 ·have ha : ¬ (1 : Int) ≤ (p.threads.length : Int) := of_decide_eq_false ha
  refine brF ?_
  exact ⟨rb (by rw [decide_eq_false (p := 1 ≤ p.threads.length) (by omega)]; rfl),Below.refl _ _⟩
theorem dem4_c (h : DmV B w g bx p) {ev : Nat} (hev : w.heap[ev]? = some (.cells #[evV bx] 178 (0,0))) : Calls Tryz.prog 120 #[.pointer (some ⟨ev,0,none⟩),.pointer (some ⟨bx,0,none⟩)] w fun e w' => e = .returned (.bool (p.threads.all fun l => threadB l p.locs.length)) ∧ Below w.heap.size w w' := by
 refine calls_of_E (S := sg 6) (sgOk _) (args := [.pointer (some ⟨ev,0,none⟩),.pointer (some ⟨bx,0,none⟩)]) Tryz.func120 rfl rfl (Nat.le_of_ble_eq_true rfl) rfl ?_
 refine ⟨_,cells_at (cells_block hev) (i := 0) rfl,?_⟩
 refine Calls.mono (every_c true h) ?_
 rintro e V ⟨rfl,hbV⟩
 exact ⟨rfl,hbV⟩
theorem dem5_c (h : DmV B w g bx p) : Calls Tryz.prog 123 #[.pointer (some ⟨bx,0,none⟩)] w fun e w' => e = .returned (.bool (decide (p.ask = 1) || (decide (p.ask = 2) || decide (p.ask = 3)))) ∧ Below w.heap.size w w' := by
 refine calls_of_E (S := sg 21) (sgOk _) (args := [.pointer (some ⟨bx,0,none⟩)]) Tryz.func123 rfl rfl (Nat.le_of_ble_eq_true rfl) rfl ?_
 obtain ⟨p1,c1,p2,c2,p3,c3,p4,c4,h0,h1,h2,h3,h4,h5⟩ := h.h
 refine ⟨_,cells_at (cells_block h.b) (i := 0) rfl,?_⟩
 refine ⟨_,cells_at h0 (i := 4) rfl,?_⟩
 refine And.intro (fun ha => ?_) (fun ha => ?_)
 ·have ha : decide (p.ask = 1) = true := (u8d p.ask 1).symm.trans ha
  refine brT ?_
  exact ⟨rb (by rw [ha]; rfl),Below.refl _ _⟩
 ·have ha : decide (p.ask = 1) = false := (u8d p.ask 1).symm.trans ha
  refine ⟨_,cells_at (cells_block h.b) (i := 0) rfl,?_⟩
  refine ⟨_,cells_at h0 (i := 4) rfl,?_⟩
  refine And.intro (fun hb => ?_) (fun hb => ?_)
  ·have hb : decide (p.ask = 2) = true := (u8d p.ask 2).symm.trans hb
   exact ⟨rb (by rw [ha,hb]; rfl),Below.refl _ _⟩
  ·have hb : decide (p.ask = 2) = false := (u8d p.ask 2).symm.trans hb
   refine ⟨_,cells_at (cells_block h.b) (i := 0) rfl,?_⟩
   refine ⟨_,cells_at h0 (i := 4) rfl,?_⟩
   exact ⟨rb (by rw [ha,hb]; exact u8d p.ask 3),Below.refl _ _⟩
theorem dem6_c (h : DmV B w g bx p) : Calls Tryz.prog 124 #[.pointer (some ⟨bx,0,none⟩)] w fun e w' => e = .returned (.bool (condB p.threads.length p.locs.length 20 p.cond)) ∧ Below w.heap.size w w' := by
 refine calls_of_E (S := sg 17) (sgOk _) (args := [.pointer (some ⟨bx,0,none⟩)]) Tryz.func124 rfl rfl (Nat.le_of_ble_eq_true rfl) rfl ?_
 have hbd : Below w.heap.size w w.drew := (Below.refl _ w).drew
 have hd := h.below hbd
 obtain ⟨p1,c1,p2,c2,p3,c3,p4,c4,h0,h1,h2,h3,h4,h5⟩ := hd.h
 refine DrawE.ord [] [0,1,2,3,4,5,6,7,8,9,10,11,12,13,14,15] (by kernel_rfl) ?_
 refine ⟨_,cells_at (cells_block hd.b) (i := 0) rfl,?_⟩
 refine ⟨cndCells p.cond p4 c4,rfl,cells_sub (n := 5) (m := 5) h0,hd.hg,?_⟩
 refine ⟨_,cells_at (cells_block hd.b) (i := 0) rfl,?_⟩
 refine ⟨_,cells_at h0 (i := 3) rfl,?_⟩
 refine ⟨_,cells_at (cells_block hd.b) (i := 0) rfl,?_⟩
 refine ⟨_,cells_at h0 (i := 1) rfl,?_⟩
 refine Calls.mono (Cond_c hd.hB h4) ?_
 rintro e V ⟨rfl,hbV⟩
 exact ⟨hbV,rfl,hbd.trans hbV⟩
def dmFs (bx ev : Nat) : List Value := [i64 70,.func (.func 114) #[] #[.pointer (some ⟨bx,0,none⟩)],i64 71,.func (.func 116) #[] #[.pointer (some ⟨bx,0,none⟩)],
 i64 72,.func (.func 118) #[] #[.pointer (some ⟨bx,0,none⟩),.pointer (some ⟨ev,0,none⟩)],i64 73,.func (.func 120) #[] #[.pointer (some ⟨ev,0,none⟩),.pointer (some ⟨bx,0,none⟩)],
 i64 75,.func (.func 123) #[] #[.pointer (some ⟨bx,0,none⟩)],i64 74,.func (.func 124) #[] #[.pointer (some ⟨bx,0,none⟩)]]
theorem demands_c {g : Nat} {w : World} : Calls Tryz.prog 99 #[.pointer (some ⟨g,0,none⟩)] w fun e w' => e = .returned (.slice (some ⟨w.heap.size + 2,0,none⟩) 6 6) ∧
  w'.heap[w.heap.size]? = some (.cells #[.pointer (some ⟨g,0,none⟩)] 130 (0,0)) ∧ w'.heap[w.heap.size + 1]? = some (.cells #[evV w.heap.size] 178 (0,0)) ∧
  w'.heap[w.heap.size + 2]? = some (.cells (dmFs w.heap.size (w.heap.size + 1)).toArray 153 (0,0)) ∧ w'.heap.size = w.heap.size + 3 ∧ Below w.heap.size w w' := by
 refine calls_of_E (S := sg 18) (sgOk _) (args := [.pointer (some ⟨g,0,none⟩)]) Tryz.func99 rfl rfl (Nat.le_of_ble_eq_true rfl) rfl ?_
 have hs := World.size_alloc w (.cells (Value.pointer (some ⟨g,0,none⟩)).cells 130)
 refine store_new (X := w.alloc (.cells (Value.pointer (some ⟨g,0,none⟩)).cells 130)) (v := evV w.heap.size) (ttOk.get 178 _ rfl) rfl rfl rfl fun V hbV fV sV => ?_
 generalize hev : (w.alloc (.cells (Value.pointer (some ⟨g,0,none⟩)).cells 130)).heap.size = ev at *
 refine ⟨[i64 70,.func (.func 114) #[] #[.pointer (some ⟨w.heap.size,0,none⟩)]],rfl,?_⟩
 refine ⟨[i64 71,.func (.func 116) #[] #[.pointer (some ⟨w.heap.size,0,none⟩)]],rfl,?_⟩
 refine ⟨[i64 72,.func (.func 118) #[] #[.pointer (some ⟨w.heap.size,0,none⟩),.pointer (some ⟨ev,0,none⟩)]],rfl,?_⟩
 refine ⟨[i64 73,.func (.func 120) #[] #[.pointer (some ⟨ev,0,none⟩),.pointer (some ⟨w.heap.size,0,none⟩)]],rfl,?_⟩
 refine ⟨[i64 75,.func (.func 123) #[] #[.pointer (some ⟨w.heap.size,0,none⟩)]],rfl,?_⟩
 refine ⟨[i64 74,.func (.func 124) #[] #[.pointer (some ⟨w.heap.size,0,none⟩)]],rfl,?_⟩
 refine ⟨⟨by decide,by decide,rfl⟩,dmFs w.heap.size ev,rfl,?_⟩
 subst hs
 refine ⟨?_,?_,?_,?_,?_,?_⟩
 ·rw [sV]; rfl
 ·exact hold _ (block_below (hev ▸ hbV) (hnew w _))
 ·exact hold _ fV
 ·rw [show w.heap.size + 2 = V.heap.size from sV.symm]; exact hnew _ _
 ·rw [World.size_alloc,sV]
 ·exact (((Below.refl _ w).alloc (Nat.le_refl _) _).trans (hbV.mono (by omega))).alloc (by omega) _
end
end Go.Proofs.YtkpcgpmimejimaaGreatDoor
namespace Go.Proofs.YtkpcgpmimejimaaGreatDoor
open Go.Vc Go.RowKit Go.Sei
def okL (p : Prg) : List Bool := [isWordL p.name,locsB p,decide (1 ≤ p.threads.length) && (decide (p.threads.length ≤ 4) && p.threads.all fun l => decide (l.length ≤ 12)),p.threads.all (fun l => threadB l p.locs.length),
 decide (p.ask = 1) || (decide (p.ask = 2) || decide (p.ask = 3)),condB p.threads.length p.locs.length 20 p.cond]
theorem okL_all {p : Prg} : okPrg p = (okL p).all id := by
 unfold okPrg okL
 simp only [List.all_cons,List.all_nil,Bool.and_true,id]
theorem Right_c {B : Nat} {p : Prg} {vs : List Value} {w : World} (hB : B ≤ w.heap.size) (hp : PrgV B w vs p) (hG : GlobC w) :
  Calls Tryz.prog 73 #[.agg vs.toArray] w fun e w' => ∃ n : Int,e = .returned (i64 n) ∧ (n = 0 ↔ okPrg p = true) ∧ Below w.heap.size w w' := by
 obtain ⟨hl,p1,c1,p2,c2,p3,c3,p4,c4,rfl,h1,h2,h3,h4,h5⟩ := hp
 refine calls_of_E (S := sg 18) (sgOk _) (args := [.agg (prgCells p p1 c1 p2 c2 p3 c3 p4 c4).toArray]) Tryz.func73 rfl rfl (Nat.le_of_ble_eq_true rfl) rfl ?_
 obtain ⟨L,hL⟩ : ∃ L,L = w.heap.size := ⟨_,rfl⟩
 have hn := hnew w (.cells (Value.agg (prgCells p p1 c1 p2 c2 p3 c3 p4 c4).toArray).cells 64)
 have hs := World.size_alloc w (.cells (Value.agg (prgCells p p1 c1 p2 c2 p3 c3 p4 c4).toArray).cells 64)
 have hb : Below w.heap.size w (w.alloc (.cells (Value.agg (prgCells p p1 c1 p2 c2 p3 c3 p4 c4).toArray).cells 64)) := (Below.refl _ w).alloc (Nat.le_refl _) _
 refine Calls.mono demands_c ?_
 rintro e V ⟨rfl,hbx,hev,hsl,hsz,hbV⟩
 have hbw : Below w.heap.size w V := hb.trans (hbV.mono hb.size)
 have p1' : some (Value.slice (some ⟨(w.alloc (.cells (Value.agg (prgCells p p1 c1 p2 c2 p3 c3 p4 c4).toArray).cells 64)).heap.size + 2,0,none⟩) 6 6) = some (Value.slice (some ⟨L + 3,0,none⟩) 6 6) := by rw [hs,hL]
 have hD : DmV B V L (L + 1) p := by
  have hbB := hbw.mono hB
  rw [hs,← hL] at hbx
  refine ⟨Nat.le_trans hB hbw.size,by omega,hl,⟨p1,c1,p2,c2,p3,c3,p4,c4,cells_block (block_below hbV (hL ▸ hn)),h1.below hbB,h2.below hbB,h3.below hbB,h4.kept hbB,h5⟩,hbx,hG.below hbw⟩
 rw [hs,← hL] at hev hsl
 clear hn hs hb hbx hbV hsz
 refine ⟨Nat,fun j => ⟨[(5,.slice (some ⟨L + 3,0,none⟩) 6 6),(6,i64 6),(7,i64 (j : Nat))],[]⟩,
  fun j X => j ≤ 6 ∧ (∀ i,i < j → (okL p)[i]? = some true) ∧ DmV B X L (L + 1) p ∧ X.heap[L + 2]? = some (.cells #[evV (L + 1)] 178 (0,0)) ∧ X.heap[L + 3]? = some (.cells (dmFs (L + 1) (L + 2)).toArray 153 (0,0)) ∧ Below w.heap.size w X,fun j => 6 - j,0,
  ⟨.cons p1' (.cons rfl (.cons rfl .nil)),rfl⟩,⟨Nat.zero_le _,fun i hi => by omega,hD,hev,hsl,hbw⟩,?_⟩
 clear hD hev hsl hbw p1'
 rintro j X ⟨hj,hpre,hD,hev,hsl,hbw⟩
 dsimp only at hj hpre ⊢
 refine And.intro (fun hc => ?_) (fun hc => ?_)
 ·have hc : (j : Int) < 6 := of_decide_eq_true hc
  have hno : ∀ {i : Nat},(okL p)[i]? = some false → okPrg p = false := fun h => by rw [okL_all]; exact all_no h
  have hcs : j = 0 ∨ j = 1 ∨ j = 2 ∨ j = 3 ∨ j = 4 ∨ j = 5 := by omega
  rcases hcs with rfl | rfl | rfl | rfl | rfl | rfl
  ·refine ⟨0,rfl,by decide,?_⟩
   refine ⟨[i64 70,.func (.func 114) #[] #[.pointer (some ⟨L + 1,0,none⟩)]],rfl,cells_sub (n := 0) (m := 2) (cells_block hsl),hlt hsl,?_⟩
   refine store_new (X := X) (v := .agg [i64 70,.func (.func 114) #[] #[.pointer (some ⟨L + 1,0,none⟩)]].toArray) (ttOk.get 153 _ rfl) rfl rfl rfl fun Y hbY fY sY => ?_
   have hY := hD.below hbY
   have hevY := block_below hbY hev
   have hslY := block_below hbY hsl
   refine ⟨_,cells_at (cells_block fY) (i := 1) rfl,?_⟩
   refine Calls.mono (dem1_c hY) ?_
   rintro e W ⟨rfl,hbW⟩
   have hbX : Below w.heap.size w W := (hbw.trans (hbY.mono hbw.size)).trans (hbW.mono (Nat.le_trans hbw.size hbY.size))
   refine And.intro (fun hb => ?_) (fun hb => ?_)
   ·have hb : (!((okL p)[0]'(by show 0 < 6; decide))) = true := hb
    have hb : (okL p)[0]? = some false := by rw [List.getElem?_eq_getElem (by show 0 < 6; decide)]; exact congrArg some (by rw [← Bool.not_not ((okL p)[0]'(by show 0 < 6; decide)),hb]; rfl)
    refine ⟨_,cells_at (cells_block (block_below hbW fY)) (i := 0) rfl,?_⟩
    exact ⟨70,rfl,⟨fun h => absurd h (by decide),fun h => by rw [hno hb] at h; cases h⟩,hbX⟩
   ·have hb : (!((okL p)[0]'(by show 0 < 6; decide))) = false := hb
    have hb : (okL p)[0]? = some true := by rw [List.getElem?_eq_getElem (by show 0 < 6; decide)]; exact congrArg some (by rw [← Bool.not_not ((okL p)[0]'(by show 0 < 6; decide)),hb]; rfl)
    refine ⟨_,(wrap_i64 (by omega)).trans rfl,?_⟩
    refine ⟨1,⟨.cons rfl (.cons rfl (.cons rfl .nil)),rfl⟩,⟨by omega,fun i hi => ?_,hY.below hbW,block_below hbW hevY,block_below hbW hslY,hbX⟩,by decide⟩
    by_cases hik : i = 0
    ·rw [hik]; exact hb
    ·exact hpre i (by omega)
  ·refine ⟨1,rfl,by decide,?_⟩
   refine ⟨[i64 71,.func (.func 116) #[] #[.pointer (some ⟨L + 1,0,none⟩)]],rfl,cells_sub (n := 2) (m := 2) (cells_block hsl),hlt hsl,?_⟩
   refine store_new (X := X) (v := .agg [i64 71,.func (.func 116) #[] #[.pointer (some ⟨L + 1,0,none⟩)]].toArray) (ttOk.get 153 _ rfl) rfl rfl rfl fun Y hbY fY sY => ?_
   have hY := hD.below hbY
   have hevY := block_below hbY hev
   have hslY := block_below hbY hsl
   refine ⟨_,cells_at (cells_block fY) (i := 1) rfl,?_⟩
   refine Calls.mono (dem2_c hY) ?_
   rintro e W ⟨rfl,hbW⟩
   have hbX : Below w.heap.size w W := (hbw.trans (hbY.mono hbw.size)).trans (hbW.mono (Nat.le_trans hbw.size hbY.size))
   refine And.intro (fun hb => ?_) (fun hb => ?_)
   ·have hb : (!((okL p)[1]'(by show 1 < 6; decide))) = true := hb
    have hb : (okL p)[1]? = some false := by rw [List.getElem?_eq_getElem (by show 1 < 6; decide)]; exact congrArg some (by rw [← Bool.not_not ((okL p)[1]'(by show 1 < 6; decide)),hb]; rfl)
    refine ⟨_,cells_at (cells_block (block_below hbW fY)) (i := 0) rfl,?_⟩
    exact ⟨71,rfl,⟨fun h => absurd h (by decide),fun h => by rw [hno hb] at h; cases h⟩,hbX⟩
   ·have hb : (!((okL p)[1]'(by show 1 < 6; decide))) = false := hb
    have hb : (okL p)[1]? = some true := by rw [List.getElem?_eq_getElem (by show 1 < 6; decide)]; exact congrArg some (by rw [← Bool.not_not ((okL p)[1]'(by show 1 < 6; decide)),hb]; rfl)
    refine ⟨_,(wrap_i64 (by omega)).trans rfl,?_⟩
    refine ⟨2,⟨.cons rfl (.cons rfl (.cons rfl .nil)),rfl⟩,⟨by omega,fun i hi => ?_,hY.below hbW,block_below hbW hevY,block_below hbW hslY,hbX⟩,by decide⟩
    by_cases hik : i = 1
    ·rw [hik]; exact hb
    ·exact hpre i (by omega)
  ·refine ⟨2,rfl,by decide,?_⟩
   refine ⟨[i64 72,.func (.func 118) #[] #[.pointer (some ⟨L + 1,0,none⟩),.pointer (some ⟨L + 2,0,none⟩)]],rfl,cells_sub (n := 4) (m := 2) (cells_block hsl),hlt hsl,?_⟩
   refine store_new (X := X) (v := .agg [i64 72,.func (.func 118) #[] #[.pointer (some ⟨L + 1,0,none⟩),.pointer (some ⟨L + 2,0,none⟩)]].toArray) (ttOk.get 153 _ rfl) rfl rfl rfl fun Y hbY fY sY => ?_
   have hY := hD.below hbY
   have hevY := block_below hbY hev
   have hslY := block_below hbY hsl
   refine ⟨_,cells_at (cells_block fY) (i := 1) rfl,?_⟩
   refine Calls.mono (dem3_c hY hevY) ?_
   rintro e W ⟨rfl,hbW⟩
   have hbX : Below w.heap.size w W := (hbw.trans (hbY.mono hbw.size)).trans (hbW.mono (Nat.le_trans hbw.size hbY.size))
   refine And.intro (fun hb => ?_) (fun hb => ?_)
   ·have hb : (!((okL p)[2]'(by show 2 < 6; decide))) = true := hb
    have hb : (okL p)[2]? = some false := by rw [List.getElem?_eq_getElem (by show 2 < 6; decide)]; exact congrArg some (by rw [← Bool.not_not ((okL p)[2]'(by show 2 < 6; decide)),hb]; rfl)
    refine ⟨_,cells_at (cells_block (block_below hbW fY)) (i := 0) rfl,?_⟩
    exact ⟨72,rfl,⟨fun h => absurd h (by decide),fun h => by rw [hno hb] at h; cases h⟩,hbX⟩
   ·have hb : (!((okL p)[2]'(by show 2 < 6; decide))) = false := hb
    have hb : (okL p)[2]? = some true := by rw [List.getElem?_eq_getElem (by show 2 < 6; decide)]; exact congrArg some (by rw [← Bool.not_not ((okL p)[2]'(by show 2 < 6; decide)),hb]; rfl)
    refine ⟨_,(wrap_i64 (by omega)).trans rfl,?_⟩
    refine ⟨3,⟨.cons rfl (.cons rfl (.cons rfl .nil)),rfl⟩,⟨by omega,fun i hi => ?_,hY.below hbW,block_below hbW hevY,block_below hbW hslY,hbX⟩,by decide⟩
    by_cases hik : i = 2
    ·rw [hik]; exact hb
    ·exact hpre i (by omega)
  ·refine ⟨3,rfl,by decide,?_⟩
   refine ⟨[i64 73,.func (.func 120) #[] #[.pointer (some ⟨L + 2,0,none⟩),.pointer (some ⟨L + 1,0,none⟩)]],rfl,cells_sub (n := 6) (m := 2) (cells_block hsl),hlt hsl,?_⟩
   refine store_new (X := X) (v := .agg [i64 73,.func (.func 120) #[] #[.pointer (some ⟨L + 2,0,none⟩),.pointer (some ⟨L + 1,0,none⟩)]].toArray) (ttOk.get 153 _ rfl) rfl rfl rfl fun Y hbY fY sY => ?_
   have hY := hD.below hbY
   have hevY := block_below hbY hev
   have hslY := block_below hbY hsl
   refine ⟨_,cells_at (cells_block fY) (i := 1) rfl,?_⟩
   refine Calls.mono (dem4_c hY hevY) ?_
   rintro e W ⟨rfl,hbW⟩
   have hbX : Below w.heap.size w W := (hbw.trans (hbY.mono hbw.size)).trans (hbW.mono (Nat.le_trans hbw.size hbY.size))
   refine And.intro (fun hb => ?_) (fun hb => ?_)
   ·have hb : (!((okL p)[3]'(by show 3 < 6; decide))) = true := hb
    have hb : (okL p)[3]? = some false := by rw [List.getElem?_eq_getElem (by show 3 < 6; decide)]; exact congrArg some (by rw [← Bool.not_not ((okL p)[3]'(by show 3 < 6; decide)),hb]; rfl)
    refine ⟨_,cells_at (cells_block (block_below hbW fY)) (i := 0) rfl,?_⟩
    exact ⟨73,rfl,⟨fun h => absurd h (by decide),fun h => by rw [hno hb] at h; cases h⟩,hbX⟩
   ·have hb : (!((okL p)[3]'(by show 3 < 6; decide))) = false := hb
    have hb : (okL p)[3]? = some true := by rw [List.getElem?_eq_getElem (by show 3 < 6; decide)]; exact congrArg some (by rw [← Bool.not_not ((okL p)[3]'(by show 3 < 6; decide)),hb]; rfl)
    refine ⟨_,(wrap_i64 (by omega)).trans rfl,?_⟩
    refine ⟨4,⟨.cons rfl (.cons rfl (.cons rfl .nil)),rfl⟩,⟨by omega,fun i hi => ?_,hY.below hbW,block_below hbW hevY,block_below hbW hslY,hbX⟩,by decide⟩
    by_cases hik : i = 3
    ·rw [hik]; exact hb
    ·exact hpre i (by omega)
  ·refine ⟨4,rfl,by decide,?_⟩
   refine ⟨[i64 75,.func (.func 123) #[] #[.pointer (some ⟨L + 1,0,none⟩)]],rfl,cells_sub (n := 8) (m := 2) (cells_block hsl),hlt hsl,?_⟩
   refine store_new (X := X) (v := .agg [i64 75,.func (.func 123) #[] #[.pointer (some ⟨L + 1,0,none⟩)]].toArray) (ttOk.get 153 _ rfl) rfl rfl rfl fun Y hbY fY sY => ?_
   have hY := hD.below hbY
   have hevY := block_below hbY hev
   have hslY := block_below hbY hsl
   refine ⟨_,cells_at (cells_block fY) (i := 1) rfl,?_⟩
   refine Calls.mono (dem5_c hY) ?_
   rintro e W ⟨rfl,hbW⟩
   have hbX : Below w.heap.size w W := (hbw.trans (hbY.mono hbw.size)).trans (hbW.mono (Nat.le_trans hbw.size hbY.size))
   refine And.intro (fun hb => ?_) (fun hb => ?_)
   ·have hb : (!((okL p)[4]'(by show 4 < 6; decide))) = true := hb
    have hb : (okL p)[4]? = some false := by rw [List.getElem?_eq_getElem (by show 4 < 6; decide)]; exact congrArg some (by rw [← Bool.not_not ((okL p)[4]'(by show 4 < 6; decide)),hb]; rfl)
    refine ⟨_,cells_at (cells_block (block_below hbW fY)) (i := 0) rfl,?_⟩
    exact ⟨75,rfl,⟨fun h => absurd h (by decide),fun h => by rw [hno hb] at h; cases h⟩,hbX⟩
   ·have hb : (!((okL p)[4]'(by show 4 < 6; decide))) = false := hb
    have hb : (okL p)[4]? = some true := by rw [List.getElem?_eq_getElem (by show 4 < 6; decide)]; exact congrArg some (by rw [← Bool.not_not ((okL p)[4]'(by show 4 < 6; decide)),hb]; rfl)
    refine ⟨_,(wrap_i64 (by omega)).trans rfl,?_⟩
    refine ⟨5,⟨.cons rfl (.cons rfl (.cons rfl .nil)),rfl⟩,⟨by omega,fun i hi => ?_,hY.below hbW,block_below hbW hevY,block_below hbW hslY,hbX⟩,by decide⟩
    by_cases hik : i = 4
    ·rw [hik]; exact hb
    ·exact hpre i (by omega)
  ·refine ⟨5,rfl,by decide,?_⟩
   refine ⟨[i64 74,.func (.func 124) #[] #[.pointer (some ⟨L + 1,0,none⟩)]],rfl,cells_sub (n := 10) (m := 2) (cells_block hsl),hlt hsl,?_⟩
   refine store_new (X := X) (v := .agg [i64 74,.func (.func 124) #[] #[.pointer (some ⟨L + 1,0,none⟩)]].toArray) (ttOk.get 153 _ rfl) rfl rfl rfl fun Y hbY fY sY => ?_
   have hY := hD.below hbY
   have hevY := block_below hbY hev
   have hslY := block_below hbY hsl
   refine ⟨_,cells_at (cells_block fY) (i := 1) rfl,?_⟩
   refine Calls.mono (dem6_c hY) ?_
   rintro e W ⟨rfl,hbW⟩
   have hbX : Below w.heap.size w W := (hbw.trans (hbY.mono hbw.size)).trans (hbW.mono (Nat.le_trans hbw.size hbY.size))
   refine And.intro (fun hb => ?_) (fun hb => ?_)
   ·have hb : (!((okL p)[5]'(by show 5 < 6; decide))) = true := hb
    have hb : (okL p)[5]? = some false := by rw [List.getElem?_eq_getElem (by show 5 < 6; decide)]; exact congrArg some (by rw [← Bool.not_not ((okL p)[5]'(by show 5 < 6; decide)),hb]; rfl)
    refine ⟨_,cells_at (cells_block (block_below hbW fY)) (i := 0) rfl,?_⟩
    exact ⟨74,rfl,⟨fun h => absurd h (by decide),fun h => by rw [hno hb] at h; cases h⟩,hbX⟩
   ·have hb : (!((okL p)[5]'(by show 5 < 6; decide))) = false := hb
    have hb : (okL p)[5]? = some true := by rw [List.getElem?_eq_getElem (by show 5 < 6; decide)]; exact congrArg some (by rw [← Bool.not_not ((okL p)[5]'(by show 5 < 6; decide)),hb]; rfl)
    refine ⟨_,(wrap_i64 (by omega)).trans rfl,?_⟩
    refine ⟨6,⟨.cons rfl (.cons rfl (.cons rfl .nil)),rfl⟩,⟨by omega,fun i hi => ?_,hY.below hbW,block_below hbW hevY,block_below hbW hslY,hbX⟩,by decide⟩
    by_cases hik : i = 5
    ·rw [hik]; exact hb
    ·exact hpre i (by omega)
 ·have hc : ¬ (j : Int) < 6 := of_decide_eq_false hc
  obtain rfl : j = 6 := by omega
  exact ⟨0,rfl,⟨fun _ => by rw [okL_all]; exact all_take hpre rfl,fun _ => rfl⟩,hbw⟩
end Go.Proofs.YtkpcgpmimejimaaGreatDoor
namespace Go.Proofs.YtkpcgpmimejimaaGreatDoor
open Go.Vc Go.RowKit Go.Sei
def ThrsW (B : Nat) (w : World) (p : Option Addr) (l : List (List InsD)) : Prop := ∃ xs : List ThrR,xs.map (·.1) = l ∧ RowB thrE B w p xs ∧ ∀ x ∈ xs,RowB insE B w x.2.1 x.1 ∧ ∀ a,x.2.1 = some a → a.block < B
structure PrgX (B : Nat) (w : World) (vs : List Value) (p : Prg) : Prop where
 v : PrgV B w vs p
 th : ∃ p3 c3,vs[3]? = some (.slice p3 p.threads.length c3) ∧ ThrsW B w p3 p.threads
 init : ∃ p2 c2,vs[2]? = some (.slice p2 p.init.length c2) ∧ RowB byteE B w p2 p.init
theorem ThrsW.below {B : Nat} {w w2 : World} {p : Option Addr} {l : List (List InsD)} (h : ThrsW B w p l) (hb : Below B w w2) : ThrsW B w2 p l := by
 obtain ⟨xs,h1,h2,h3⟩ := h
 exact ⟨xs,h1,h2.below hb,fun x hx => ⟨(h3 x hx).1.below hb,(h3 x hx).2⟩⟩
theorem PrgX.below {B : Nat} {w w2 : World} {vs : List Value} {p : Prg} (h : PrgX B w vs p) (hb : Below B w w2) : PrgX B w2 vs p := by
 obtain ⟨h1,⟨p3,c3,h2,h3⟩,⟨p2,c2,h4,h5⟩⟩ := h
 exact ⟨h1.below hb,⟨p3,c3,h2,h3.below hb⟩,⟨p2,c2,h4,h5.below hb⟩⟩
def roundQ (threads : List (List InsD)) (vals : List UInt8) : Bool :=
 decide (1 ≤ vals.length) && (decide (vals.length ≤ 12) && ((threads.all fun l => decide ((endsR l vals).length ≤ 4096)) && (decide ((vals ++ threads.flatMap fun l => writesR (endsR l vals)).length ≤ 12) && srt8 (vals ++ threads.flatMap fun l => writesR (endsR l vals)))))
def nextQ (threads : List (List InsD)) (vals : List UInt8) : List UInt8 := ded (vals ++ threads.flatMap fun l => writesR (endsR l vals))
def valsQ (threads : List (List InsD)) : Nat → List UInt8 → Option (List UInt8)
 | 0,_ => none
 | n + 1,vals => if roundQ threads vals = true then (if (nextQ threads vals).length = vals.length then some vals else valsQ threads n (nextQ threads vals)) else none
structure RunK (l : List InsD) (R : RunD) : Prop where
 m : R.many ≤ R.pc
 p : R.pc ≤ l.length
 d : ∀ i,R.deps i < 2 ^ 32
 c : R.ctl < 2 ^ 32
 s : ∀ i,R.data i < 2 ^ 32 ∧ R.ctrl i < 2 ^ 32 ∧ R.att i < 2 ^ 32
theorem pow32 {n : Nat} (h : n < 32) : 2 ^ n < 2 ^ 32 := Nat.pow_lt_pow_right (by decide) h
theorem upd_lt {f : Nat → Nat} {b : Nat} (h : ∀ i,f i < b) {k v : Nat} (hv : v < b) : ∀ i,upd f k v i < b := fun i => by
 by_cases e : i = k
 ·rw [e,upd_same]; exact hv
 ·rw [upd_ne _ _ e]; exact h i
theorem RunK.emit {l : List InsD} {R : RunD} (h : RunK l R) {k a v m : UInt8} {d : Nat} (hd : d < 2 ^ 32) : (∀ i,(emitR R k a v m d).deps i < 2 ^ 32) ∧ (emitR R k a v m d).ctl < 2 ^ 32 ∧ ∀ i,(emitR R k a v m d).data i < 2 ^ 32 ∧ (emitR R k a v m d).ctrl i < 2 ^ 32 ∧ (emitR R k a v m d).att i < 2 ^ 32 := by
 unfold emitR
 exact ⟨h.d,h.c,fun i => ⟨upd_lt (fun i => (h.s i).1) hd i,upd_lt (fun i => (h.s i).2.1) h.c i,(h.s i).2.2⟩⟩
theorem RunK.exec {l : List InsD} {R : RunD} {x : InsD} {v : UInt8} (h : RunK l R) (hx : ExOk x) (hp : R.pc < l.length) (h12 : l.length ≤ 12) : RunK l (execR R x v) := by
 obtain ⟨e1,e2⟩ := exec_ok (R := R) (v := v) hx
 have hm := h.m
 have hb := pow32 (n := R.many) (by omega)
 have hs : (∀ i,(execR R x v).deps i < 2 ^ 32) ∧ (execR R x v).ctl < 2 ^ 32 ∧ ∀ i,(execR R x v).data i < 2 ^ 32 ∧ (execR R x v).ctrl i < 2 ^ 32 ∧ (execR R x v).att i < 2 ^ 32 := by
  unfold execR effR
  rcases hx with ⟨ho,_⟩ | ⟨ho,_⟩ | ho
  ·rw [if_pos ho]
   have := h.emit (k := 1) (a := x.loc) (v := v) (m := x.mode) (d := 0) (by decide)
   exact ⟨upd_lt this.1 hb,this.2.1,this.2.2⟩
  ·rw [if_neg (by rw [ho]; decide),if_pos ho]
   refine h.emit (k := 2) (a := x.loc) (v := (valR x.ar x.an R).1) (m := x.mode) ?_
   unfold valR
   split
   ·exact h.d _
   ·exact (by decide : 0 < 2 ^ 32)
  ·rw [if_neg (by rw [ho]; decide),if_neg (by rw [ho]; decide),if_neg (by rw [ho]; decide),if_neg (by rw [ho]; decide),if_neg (by rw [ho]; decide),if_neg (by rw [ho]; decide),if_pos ho]
   exact h.emit (k := 3) (a := 0) (v := 0) (m := x.mode) (d := 0) (by decide)
 exact ⟨by rw [e1,e2]; omega,by rw [e1]; omega,hs.1,hs.2.1,hs.2.2⟩
theorem RunK.go {l : List InsD} (h12 : l.length ≤ 12) (hx : ∀ x ∈ l,ExOk x) : ∀ (n : Nat) (R : RunD),RunK l R → RunK l (goR l n R)
 | 0,R,h => h
 | n + 1,R,h => by
  unfold goR
  split
  ·exact h
  ·rename_i x he
   split
   ·exact h
   ·have hp := (List.getElem?_eq_some_iff.1 he).1
    have hm : x ∈ l := List.mem_of_getElem? he
    exact RunK.go h12 hx n _ (h.exec (hx x hm) hp h12)
theorem RunK.spread {l : List InsD} {dom : List UInt8} (h12 : l.length ≤ 12) (hx : ∀ x ∈ l,ExOk x) : ∀ (n : Nat) (R : RunD),RunK l R → ∀ S ∈ spreadR l dom n R,RunK l S
 | 0,R,h,S,hS => by
  have hS : S ∈ [goR l l.length R] := hS
  rw [List.mem_singleton] at hS
  rw [hS]; exact RunK.go h12 hx _ _ h
 | n + 1,R,h,S,hS => by
  have hg := RunK.go h12 hx l.length R h
  unfold spreadR at hS
  split at hS
  ·rw [List.mem_singleton] at hS
   rw [hS]; exact hg
  ·rename_i x he
   obtain ⟨v,_,hS⟩ := List.mem_flatMap.1 hS
   have hp := (List.getElem?_eq_some_iff.1 he).1
   have hm : x ∈ l := List.mem_of_getElem? he
   exact RunK.spread h12 hx n _ (hg.exec (hx x hm) hp h12) S hS
theorem ends_ok {l : List InsD} {dom : List UInt8} (h12 : l.length ≤ 12) (hx : ∀ x ∈ l,ExOk x) : ∀ R ∈ endsR l dom,R.many ≤ 24 ∧ RunB R := fun R hR => by
 have h0 : RunK l run0 := ⟨Nat.le_refl _,Nat.zero_le _,fun _ => (by decide : 0 < 2 ^ 32),(by decide : 0 < 2 ^ 32),fun _ => ⟨(by decide : 0 < 2 ^ 32),(by decide : 0 < 2 ^ 32),(by decide : 0 < 2 ^ 32)⟩⟩
 have h := RunK.spread h12 hx _ _ h0 R hR
 have := h.m
 have := h.p
 exact ⟨by omega,fun i _ => h.s i⟩
end Go.Proofs.YtkpcgpmimejimaaGreatDoor
namespace Go.Proofs.YtkpcgpmimejimaaGreatDoor
open Go.Vc Go.RowKit Go.Sei
theorem rowB_at {α : Type} {E : Enc α} {B : Nat} {w : World} {p : Option Addr} {l : List α} (h : RowB E B w p l) {i : Nat} (hi : i < l.length) : ∃ b o,p = some ⟨b,o,none⟩ ∧ b < B ∧ ∀ i (h : i < l.length),Cells w ⟨b,o + i * E.sz,none⟩ (E.enc l[i]) := by
 obtain ⟨b,o,hp,hat⟩ := h.get
 rcases hp with hp | hp
 ·omega
 ·exact ⟨b,o,hp,(hat i hi).1,fun j hj => (hat j hj).2⟩
section
variable {B n : Nat} {p : Prg} {pc : List Value} {V : List UInt8} {w : World}
theorem Values_c (hB : B ≤ w.heap.size) (hP : PrgX B w pc p) (hG : GlobE w) (hok : okPrg p = true) (hx : ∀ l ∈ p.threads,∀ x ∈ l,ExOk x) (h12 : ∀ l ∈ p.threads,l.length ≤ 12) (hi1 : 1 ≤ p.init.length) (hi12 : p.init.length ≤ 12) (his : srt8 p.init = true) (hQ : valsQ p.threads n (ded p.init) = some V) :
  Calls Tryz.prog 74 #[.agg pc.toArray,i64 16] w fun e w' => (∃ (q : Option Addr) (c : Nat),e = .returned (.tuple #[.slice q V.length c,i64 0]) ∧ OwnS byteE 5 w.heap.size w' q c V) ∧ Below w.heap.size w w' := by
 refine calls_of_M (S := sg 60) (sgOk _) (args := [.agg pc.toArray,i64 16]) (.c .p (.s .p (.c .p .p))) Tryz.func74 rfl rfl (Nat.le_of_ble_eq_true rfl) rfl ?_
 obtain ⟨L,hL⟩ : ∃ L,L = w.heap.size := ⟨_,rfl⟩
 have hpc := hP.v.size
 have hthr := hP.v.len.threads
 refine ⟨Unit,fun _ => ⟨[(1,i64 16),(2,AtR L)],[]⟩,fun _ X => X.heap[L]? = some (.cells pc.toArray 64 (0,0)) ∧ Below w.heap.size w X,⟨(),⟨.cons rfl (.cons (by rw [hL]; rfl) .nil),rfl⟩,by rw [hL]; exact hnew w _,(Below.refl _ w).alloc (Nat.le_refl _) _⟩,?_⟩
 rintro _ X ⟨f0,hbX⟩
 refine brF ?_
 refine brF ?_
 refine ⟨pc,hpc,cells_block f0,hlt f0,?_⟩
 refine Calls.mono (Right_c (Nat.le_trans hB hbX.size) (hP.v.below (hbX.mono hB)) (hG.c.below hbX)) ?_
 rintro e Y ⟨m,rfl,hm,hbY⟩
 have hm0 : m = 0 := hm.2 hok
 subst hm0
 refine brF ?_
 have hwY := hbX.trans (hbY.mono hbX.size)
 have f0 := block_below hbY f0
 obtain ⟨_,⟨p3,c3,h3,xs,hxs,hrow,hxr⟩,⟨p2,c2,h2,hinit⟩⟩ := hP
 refine ⟨Option Addr × Nat,fun s => ⟨[(1,i64 16),(2,AtR L),(6,.slice s.1 (ded p.init).length s.2)],[]⟩,fun s Z => OwnS byteE 5 w.heap.size Z s.1 s.2 (ded p.init) ∧ Z.heap[L]? = some (.cells pc.toArray 64 (0,0)) ∧ Below w.heap.size w Z,?_,?_⟩
 ·refine ⟨_,cells_at (cells_block f0) (i := 2) (by simpa using h2),?_⟩
  refine Calls.mono (distinct_c ((hinit.below (hwY.mono hB)).slr (Nat.le_trans hB hwY.size)) hi1 hi12 his) ?_
  rintro e Z ⟨⟨q,c,rfl,ho⟩,hbZ⟩
  exact ⟨(q,c),⟨.cons rfl (.cons rfl (.cons rfl .nil)),rfl⟩,OwnS.lower ho hwY.size,block_below hbZ f0,hwY.trans (hbZ.mono hwY.size)⟩
 rintro ⟨q,c⟩ X ⟨ho,f0,hbX⟩
 refine ⟨Nat × List UInt8 × Option Addr × Nat,fun s => ⟨[(1,i64 16),(2,AtR L),(6,.slice s.2.2.1 s.2.1.length s.2.2.2)],[]⟩,
  fun s Z => valsQ p.threads s.1 s.2.1 = some V ∧ OwnS byteE 5 w.heap.size Z s.2.2.1 s.2.2.2 s.2.1 ∧ Z.heap[L]? = some (.cells pc.toArray 64 (0,0)) ∧ Below w.heap.size w Z,fun s => s.1,(n,ded p.init,q,c),
  ⟨.cons rfl (.cons rfl (.cons rfl .nil)),rfl⟩,⟨hQ,ho,f0,hbX⟩,?_⟩
 rintro ⟨k,vals,q,c⟩ X ⟨hQ,ho,f0,hbX⟩
 dsimp only at hQ ho ⊢
 cases k with
 | zero => cases hQ
 | succ k =>
 have hQ : (if roundQ p.threads vals = true then (if (nextQ p.threads vals).length = vals.length then some vals else valsQ p.threads k (nextQ p.threads vals)) else none) = some V := hQ
 have hr : roundQ p.threads vals = true := by
  cases h : roundQ p.threads vals with
  | true => rfl
  | false => rw [h] at hQ; cases hQ
 rw [if_pos hr] at hQ
 unfold roundQ at hr
 simp only [Bool.and_eq_true,decide_eq_true_eq,List.all_eq_true] at hr
 obtain ⟨r1,r2,r3,r4,r5⟩ := hr
 refine brN (decide_eq_false (by omega)) ?_
 have hq0 : q = none → c = 0 := fun e => by
  rcases ho.inv with ⟨_,h,_⟩ | ⟨g,_,h,_⟩
  ·exact h
  ·rw [e] at h; cases h
 have hqb : ∀ a,q = some a → a.block < X.heap.size := fun a ha => (own_bl ho ha).2.1
 refine Calls.mono (Clone8_c ho.row (by omega) hq0) ?_
 rintro e Y ⟨⟨q1,k1,rfl,o1⟩,hbY⟩
 have hwY := hbX.trans (hbY.mono hbX.size)
 have f0Y := block_below hbY f0
 have hl3 : xs.length = p.threads.length := by rw [← hxs,List.length_map]
 refine ⟨_,cells_at (cells_block f0Y) (i := 3) (by simpa using h3),?_⟩
 obtain ⟨g,hg⟩ : ∃ g : List InsD → List UInt8,g = fun l => writesR (endsR l vals) := ⟨_,rfl⟩
 rw [← hg] at r4 r5
 have hnx : nextQ p.threads vals = ded (vals ++ p.threads.flatMap g) := by unfold nextQ; rw [hg]
 refine ⟨Nat × Option Addr × Nat,fun s => ⟨[(1,i64 16),(2,AtR L),(6,.slice q vals.length c),(7,.slice s.2.1 (vals ++ (p.threads.take s.1).flatMap g).length s.2.2),(33,.slice p3 p.threads.length c3),(34,i64 p.threads.length),(35,i64 (s.1 : Nat))],[]⟩,
  fun s Z => s.1 ≤ p.threads.length ∧ OwnS byteE 5 X.heap.size Z s.2.1 s.2.2 (vals ++ (p.threads.take s.1).flatMap g) ∧ Below X.heap.size X Z,fun s => p.threads.length - s.1,(0,q1,k1),
  ⟨.cons rfl (.cons rfl (.cons rfl (.cons (by rw [List.take_zero,List.flatMap_nil,List.append_nil]; rfl) (.cons rfl (.cons rfl (.cons rfl .nil)))))),rfl⟩,⟨Nat.zero_le _,by show OwnS byteE _ _ _ _ _ (vals ++ (p.threads.take 0).flatMap g); rw [List.take_zero,List.flatMap_nil,List.append_nil]; exact o1,hbY⟩,?_⟩
 rintro ⟨m,q1,k1⟩ Y ⟨hm,o1,hbY⟩
 dsimp only at hm o1 ⊢
 have hwY := hbX.trans (hbY.mono hbX.size)
 have f0Y := block_below hbY f0
 have hXY := hbY.size
 have lenTake : ∀ j,(vals ++ (p.threads.take j).flatMap g).length ≤ 12 := fun j => by
  have e : p.threads.flatMap g = (p.threads.take j).flatMap g ++ (p.threads.drop j).flatMap g := by rw [← List.flatMap_append,List.take_append_drop]
  rw [e,← List.append_assoc,List.length_append] at r4
  omega
 refine And.intro (fun hc => ?_) (fun hc => ?_)
 ·have hc : (m : Int) < (p.threads.length : Int) := of_decide_eq_true hc
  have hmt : m < p.threads.length := by omega
  have hmx : m < xs.length := by omega
  obtain ⟨b3,o3,hp3,hb3,hat3⟩ := rowB_at (hrow.below (hwY.mono hB)) hmx
  have hB2 : b3 < Y.heap.size := Nat.lt_of_lt_of_le hb3 (Nat.le_trans hB hwY.size)
  have e3 : some (Value.slice p3 p.threads.length c3) = some (Value.slice (some ⟨b3,o3,none⟩) p.threads.length c3) := by rw [hp3]
  subst hp3
  refine ⟨m,rfl,hmt,?_⟩
  refine ⟨thrV xs[m],by have := cells_at (hat3 m hmx) (i := 0) (v := thrV xs[m]) rfl; exact this,?_⟩
  obtain ⟨hrm,hrb⟩ := hxr _ (List.getElem_mem hmx)
  have hxm : xs[m].1 = p.threads[m] := by
   have := congrArg (fun l => l[m]?) hxs
   simp only [List.getElem?_map,List.getElem?_eq_getElem hmx,List.getElem?_eq_getElem hmt,Option.map_some,Option.some.injEq] at this
   exact this
  have hmem := List.getElem_mem hmt
  have ex := hx _ hmem
  have e12 := h12 _ hmem
  have hxl : xs[m].1.length = p.threads[m].length := by rw [hxm]
  have hw := writes_c (w := Y) (l := p.threads[m]) (dom := vals) (q := xs[m].2.1) (p := q) (cap := xs[m].2.2) (cd := c) (by rw [← hxm]; exact (hrm.below (hwY.mono hB)).slr (Nat.le_trans hB hwY.size)) (ho.row.below hbY) e12 ex (fun R hR => (ends_ok e12 ex R hR).1) (r3 _ hmem) (fun a ha => Nat.lt_of_lt_of_le (hrb a ha) (Nat.le_trans hB hwY.size)) (fun a ha => Nat.lt_of_lt_of_le (hqb a ha) hXY) (by omega)
  rw [← hxl] at hw
  have eg : writesR (endsR p.threads[m] vals) = g p.threads[m] := by rw [hg]
  rw [eg] at hw
  refine Calls.mono hw ?_
  rintro e Z ⟨⟨q2,k2,rfl,o2⟩,hbZ⟩
  refine brF ?_
  have tk : (p.threads.take (m + 1)).flatMap g = (p.threads.take m).flatMap g ++ g p.threads[m] := by
   rw [List.take_succ_eq_append_getElem hmt,List.flatMap_append,List.flatMap_cons,List.flatMap_nil,List.append_nil]
  have l1 := lenTake m
  have l2 := lenTake (m + 1)
  rw [tk,← List.append_assoc,List.length_append] at l2
  have hXZ := hbY.trans (hbZ.mono hXY)
  have hsZ := hbZ.size
  refine app_any (E := byteE) (T := 5) (B := X.heap.size) (l := vals ++ (p.threads.take m).flatMap g) (news := g p.threads[m]) (cap := k1) (m := (g p.threads[m]).length) Tryz.underlying58 (ttOk.get 5 _ rfl) rfl rfl rfl (o1.below hbZ) rfl o2.row (fun e => by
   rcases o2.inv with ⟨_,h,_⟩ | ⟨g',_,h,_⟩
   ·exact h
   ·rw [e] at h; cases h) (by omega) (by omega) (by show ((vals ++ (p.threads.take m).flatMap g).length + (g p.threads[m]).length) * 1 ≤ _; omega) ?_
  intro q4 k4 U oU gU hbU
  rw [List.append_assoc,← tk] at oU ⊢
  refine ⟨((m + 1 : Nat) : Int),(wrap_i64 (by omega)).trans (by omega),?_⟩
  exact ⟨(m + 1,q4,k4),⟨.cons rfl (.cons rfl (.cons rfl (.cons rfl (.cons rfl (.cons rfl (.cons rfl .nil)))))),rfl⟩,⟨hmt,oU,hXZ.trans hbU⟩,by show p.threads.length - (m + 1) < p.threads.length - m; omega⟩
 ·have hc : ¬ (m : Int) < (p.threads.length : Int) := of_decide_eq_false hc
  obtain rfl : m = p.threads.length := by omega
  rw [List.take_length] at o1 ⊢
  refine Calls.mono (distinct_c o1.row (by rw [List.length_append]; omega) r4 r5) ?_
  rintro e Z ⟨⟨q2,k2,rfl,o2⟩,hbZ⟩
  rw [← hnx] at o2 ⊢
  have hXZ := hbY.trans (hbZ.mono hXY)
  have hwZ := hbX.trans (hXZ.mono hbX.size)
  refine And.intro (fun he => ?_) (fun he => ?_)
  ·have he : (nextQ p.threads vals).length = vals.length := by
    have := of_decide_eq_true he
    omega
   rw [if_pos he] at hQ
   simp only [Option.some.injEq] at hQ
   subst hQ
   exact ⟨⟨q,c,rfl,ho.below hXZ⟩,hwZ⟩
  ·have he : ¬ (nextQ p.threads vals).length = vals.length := fun e => (of_decide_eq_false he) (by rw [e])
   rw [if_neg he] at hQ
   exact ⟨(k,nextQ p.threads vals,q2,k2),⟨.cons rfl (.cons rfl (.cons rfl .nil)),rfl⟩,⟨hQ,OwnS.lower o2 hwY.size,block_below hXZ f0,hwZ⟩,Nat.lt_succ_self k⟩
end
end Go.Proofs.YtkpcgpmimejimaaGreatDoor
namespace Go.Proofs.YtkpcgpmimejimaaGreatDoor
open Go.Vc Go.RowKit Go.Sei
section
variable {w : World} {bP cv B : Nat} {pc : List Value} {qv : Option Addr} {V : List UInt8} {p : Prg}
theorem mixes_c (fP : w.heap[bP]? = some (.cells pc.toArray 64 (0,0))) (hB : B ≤ w.heap.size) (hP : PrgX B w pc p) (hil : p.locs.length = p.init.length) (hi6 : p.init.length ≤ 6) (hG : GlobE w) (hV : SlR byteE w qv V) (hv1 : 1 ≤ V.length) (hv12 : V.length ≤ 12) (hvs : srt8 V = true) (hd12 : (ded V).length ≤ 12)
  (ht4 : p.threads.length ≤ 4) (hT : ∀ l ∈ p.threads,ThrQ V l) (hall : ∀ k,k ≤ p.threads.length → prodT ((p.threads.take k).map fun l => (pathsOf V l).length) ≤ 4096) (hpb : ∀ l ∈ p.threads,∀ P ∈ pathsOf V l,PathB p.init.length P)
  (hsome : ∀ ds ∈ digsR ((p.threads.map (pathsOf V)).map List.length),(mixR p.init (pickR (p.threads.map (pathsOf V)) ds)).isSome = true) :
  Calls Tryz.prog 75 #[At0 bP,.slice qv V.length cv] w fun e w' => (∃ (ms : List MixX) (q : Option Addr) (c : Nat),e = .returned (.tuple #[.slice q ms.length c,.bool true]) ∧ ms.map (·.m) = mixesL p.init (p.threads.map (pathsOf V)) ∧ OwnS mixE 133 w.heap.size w' q c ms ∧ ∀ x ∈ ms,NInM w.heap.size (fun k => w.heap.size ≤ k) w' x) ∧ Below w.heap.size w w' := by
 refine calls_of_M (S := sg 89) (sgOk _) (args := [At0 bP,.slice qv V.length cv]) (.c .p (.c .p (.s .p (.s .p (.c .p (.c .p (.s .p .p))))))) Tryz.func75 rfl rfl (Nat.le_of_ble_eq_true rfl) rfl ?_
 obtain ⟨L,hL⟩ : ∃ L,L = w.heap.size := ⟨_,rfl⟩
 have hbP := hlt fP
 refine ⟨Unit,fun _ => ⟨[(1,.slice qv V.length cv),(2,At0 L),(4,At0 (L + 1)),(5,At0 (L + 2))],[]⟩,fun _ X => X.heap[L]? = some (.cells #[.pointer (some ⟨bP,0,none⟩)] 130 (0,0)) ∧ X.heap[L + 1]? = some (.cells #[.slice none 0 0] 127 (0,0)) ∧ X.heap[L + 2]? = some (.cells #[.bool false] 4 (0,0)) ∧ X.heap.size = L + 3 ∧ Below w.heap.size w X,?_,?_⟩
 ·have s1 := World.size_alloc w (.cells #[.pointer (some ⟨bP,0,none⟩)] 130)
  have h2 := hnew (w.alloc (.cells #[.pointer (some ⟨bP,0,none⟩)] 130)) (.cells #[.slice none 0 0] 127)
  have s2 := World.size_alloc (w.alloc (.cells #[.pointer (some ⟨bP,0,none⟩)] 130)) (.cells #[.slice none 0 0] 127)
  have h3 := hnew ((w.alloc (.cells #[.pointer (some ⟨bP,0,none⟩)] 130)).alloc (.cells #[.slice none 0 0] 127)) (.cells #[.bool false] 4)
  have s3 := World.size_alloc ((w.alloc (.cells #[.pointer (some ⟨bP,0,none⟩)] 130)).alloc (.cells #[.slice none 0 0] 127)) (.cells #[.bool false] 4)
  rw [s1] at h2 s2
  rw [s2] at h3 s3
  refine ⟨(),⟨.cons rfl (.cons (by rw [hL]; rfl) (.cons (by rw [hL,← s1]; rfl) (.cons (by rw [hL,← s2]; rfl) .nil))),rfl⟩,?_,?_,?_,?_,?_⟩
  ·rw [hL]; exact hold _ (hold _ (hnew w _))
  ·rw [hL]; exact hold _ h2
  ·rw [hL]; exact h3
  ·rw [hL]; exact s3
  ·exact (((Below.refl _ w).alloc (Nat.le_refl _) _).alloc (by simp) _).alloc (by simp; omega) _
 rintro _ X ⟨f0,f1,f2,sX,hbX⟩
 refine ⟨Unit,fun _ => ⟨[(1,.slice qv V.length cv),(2,At0 L),(4,At0 (L + 1)),(5,At0 (L + 2)),(6,At0 (L + 3))],[]⟩,fun _ Y => MxS w.heap.size Y L bP [] none 0 [] none 0 ∧ Below w.heap.size w Y,?_,?_⟩
 ·refine ⟨(),⟨.cons rfl (.cons rfl (.cons rfl (.cons rfl (.cons (by rw [← sX]; rfl) .nil)))),rfl⟩,⟨hold _ f0,hold _ f1,hold _ f2,by rw [← sX]; exact hnew X _,OwnS.nil,OwnS.nil,fun z hz => (by cases hz),fun z hz => (by cases hz)⟩,hbX.alloc hbX.size _⟩
 clear f0 f1 f2 sX hbX
 rintro _ X ⟨hS,hbX⟩
 have hP0 := hP
 obtain ⟨_,⟨p3,c3,h3,xs,hxs,hrow,hxr⟩,⟨p2,c2,h2,hinit⟩⟩ := hP
 have hxl : xs.length = p.threads.length := by rw [← hxs,List.length_map]
 refine ⟨(List TpR × Option Addr × Nat) × Option Addr × Nat,fun s => ⟨[(2,At0 L),(4,At0 (L + 1)),(5,At0 (L + 2)),(6,At0 (L + 3)),(7,.slice s.2.1 (p.threads.map fun l => (pathsOf V l).length).length s.2.2)],[]⟩,fun s Z => MxS w.heap.size Z L bP (p.threads.map fun l => (pathsOf V l).length) s.2.1 s.2.2 s.1.1 s.1.2.1 s.1.2.2 ∧ s.1.1.map (fun z => z.1.map (·.1)) = p.threads.map (pathsOf V) ∧ Below w.heap.size w Z,?_,?_⟩
 ·refine ⟨_,cells_at (cells_block hS.f0) (i := 0) rfl,?_⟩
  refine ⟨_,cells_at (cells_block (block_below hbX fP)) (i := 3) (by simpa using h3),?_⟩
  refine ⟨Nat × (List TpR × Option Addr × Nat) × Option Addr × Nat,fun s => ⟨[(1,.slice qv V.length cv),(2,At0 L),(4,At0 (L + 1)),(5,At0 (L + 2)),(6,At0 (L + 3)),(7,.slice s.2.2.1 ((p.threads.take s.1).map fun l => (pathsOf V l).length).length s.2.2.2),(8,i64 (prodT ((p.threads.take s.1).map fun l => (pathsOf V l).length) : Nat)),(23,.slice p3 p.threads.length c3),(24,i64 p.threads.length),(25,i64 (s.1 : Nat))],[]⟩,
   fun s Z => s.1 ≤ p.threads.length ∧ MxS w.heap.size Z L bP ((p.threads.take s.1).map fun l => (pathsOf V l).length) s.2.2.1 s.2.2.2 s.2.1.1 s.2.1.2.1 s.2.1.2.2 ∧ s.2.1.1.map (fun z => z.1.map (·.1)) = (p.threads.take s.1).map (pathsOf V) ∧ Below w.heap.size w Z,fun s => p.threads.length - s.1,(0,([],none,0),none,0),
   ⟨.cons rfl (.cons rfl (.cons rfl (.cons rfl (.cons rfl (.cons rfl (.cons rfl (.cons rfl (.cons rfl (.cons rfl .nil))))))))),rfl⟩,⟨Nat.zero_le _,hS,rfl,hbX⟩,?_⟩
  clear hS hbX
  rintro ⟨k,⟨ts,pT,cT⟩,ps,cs⟩ Z ⟨hk,hS,hz,hbZ⟩
  dsimp only at hk hS hz ⊢
  have hts : ts.length = k := by
   have := congrArg List.length hz
   rw [List.length_map,List.length_map,List.length_take] at this
   omega
  refine And.intro (fun hc => ?_) (fun hc => ?_)
  ·have hc : (k : Int) < (p.threads.length : Int) := of_decide_eq_true hc
   have hkl : k < p.threads.length := by omega
   have hkx : k < xs.length := by omega
   have hZs := hbZ.size
   obtain ⟨l,hlk⟩ : ∃ l,p.threads[k] = l := ⟨_,rfl⟩
   have hlm : l ∈ p.threads := by rw [← hlk]; exact List.getElem_mem hkl
   have hQ := hT l hlm
   obtain ⟨b3,o3,hp3,hb3,hat3⟩ := rowB_at (hrow.below (hbZ.mono hB)) hkx
   have hB2 : b3 < Z.heap.size := by omega
   have e3 : some (Value.slice p3 p.threads.length c3) = some (Value.slice (some ⟨b3,o3,none⟩) p.threads.length c3) := by rw [hp3]
   subst hp3
   refine ⟨k,rfl,hkl,?_⟩
   refine ⟨thrV xs[k],by have := cells_at (hat3 k hkx) (i := 0) (v := thrV xs[k]) rfl; exact this,?_⟩
   obtain ⟨hrm,hrb⟩ := hxr _ (List.getElem_mem hkx)
   have hxm : xs[k].1 = l := by
    have := congrArg (fun l => l[k]?) hxs
    simp only [List.getElem?_map,List.getElem?_eq_getElem hkx,List.getElem?_eq_getElem hkl,Option.map_some,Option.some.injEq] at this
    rw [this,hlk]
   have hpt : (p.threads.take (k + 1)) = p.threads.take k ++ [l] := by rw [List.take_succ_eq_append_getElem hkl,hlk]
   refine Calls.mono (Paths_c (l := xs[k].1) (vals := V) ((hrm.below (hbZ.mono hB)).slr (by omega)) (hV.below hbZ) hv1 hv12 hvs (by rw [hxm]; exact hQ.ex) (by rw [hxm]; exact hQ.ok) (hG.below hbZ) (by rw [hxm]; exact ends_ok hQ.l12 hQ.ex) (by rw [hxm]; exact hQ.m) (fun a ha => by have := hrb a ha; omega) hd12) ?_
   rintro e Y ⟨⟨rk,pk,ck,rfl,hrk,ork,onk⟩,hbY⟩
   rw [hxm] at hrk
   have hrk : rk.map (·.1) = pathsOf V l := hrk
   have hrkl : rk.length = (pathsOf V l).length := by rw [← hrk,List.length_map]
   have hpl : (pathsOf V l).length ≤ 4096 := by rw [List.length_map]; exact hQ.m
   have hSY := hS.below hbY
   have hpr := hall (k + 1) hkl
   have hpr0 := hall k (by omega)
   rw [hpt,List.map_append] at hpr
   have hpr : prodT ((p.threads.take k).map (fun l => (pathsOf V l).length) ++ [(pathsOf V l).length]) ≤ 4096 := hpr
   rw [prodT_snoc,← hrkl] at hpr
   obtain ⟨A,hA⟩ : ∃ A,A = prodT ((p.threads.take k).map fun l => (pathsOf V l).length) := ⟨_,rfl⟩
   have hA2 : prodT ((p.threads.take (k + 1)).map fun l => (pathsOf V l).length) = A * rk.length := by
    rw [hpt,List.map_append]
    show prodT ((p.threads.take k).map (fun l => (pathsOf V l).length) ++ [(pathsOf V l).length]) = _
    rw [prodT_snoc,← hrkl,hA]
   rw [← hA] at hpr hpr0 ⊢
   obtain ⟨nz,hnz⟩ : ∃ nz : TpR,nz = (rk,pk,ck) := ⟨_,rfl⟩
   have hen : [Value.slice pk rk.length ck] = tpE.enc nz := by rw [hnz]; rfl
   refine ⟨((A * rk.length : Nat) : Int),by rw [← Int.natCast_mul]; exact wrap_i64 (by omega),?_⟩
   refine brF ?_
   refine brN (decide_eq_false (by omega)) ?_
   refine ⟨_,cells_at (cells_block hSY.f3) (i := 0) rfl,?_⟩
   refine ⟨⟨by decide,by decide,rfl⟩,tpE.enc nz,by rw [← hen]; rfl,?_⟩
   have hb1 : Below Y.heap.size Y (Y.alloc (.cells (tpE.enc nz).toArray 158)) := (Below.refl _ _).alloc (Nat.le_refl _) _
   have hS1 := hSY.below hb1
   have ork1 := ork.below hb1
   have onk1 := fun x hx => (onk x hx).same (Z := Y.alloc (.cells (tpE.enc nz).toArray 158)) fun {α E T c q l} _ ho => ho.below hb1
   unfold opsE stepE
   show SatR _ _
   refine appT hS1.rk (one_new tpE nz) (by have := hb1.size; have := hbY.size; omega) (by omega) fun p' c' U oU gU hat1 => ?_
   have f0U := box_past hS1.f0 hS1.rk (by decide) gU
   have f1U := box_past hS1.f1 hS1.rk (by decide) gU
   have f2U := box_past hS1.f2 hS1.rk (by decide) gU
   have f3U := box_past hS1.f3 hS1.rk (by decide) gU
   refine store_one (ttOk.get 157 _ rfl) f3U (o := 0) (v := .slice p' (ts ++ [nz]).length c') rfl rfl (by show 0 < 1; decide) rfl fun S fS gS sS => ?_
   have hbZY := hbZ.trans (hbY.mono hZs)
   have sY := hbY.size
   have sb1 := hb1.size
   have hbU : Below w.heap.size w U := (hbZY.trans (hb1.mono (by omega))).trans (past_below hS1.rk (by omega) (Nat.le_refl _) gU)
   have hbS : Below w.heap.size w S := hbU.trans (below_grown gS hbU.size (by omega))
   have hSS : MxS w.heap.size S L bP ((p.threads.take k).map fun l => (pathsOf V l).length) ps cs (ts ++ [nz]) p' c' := by
    have kU : ∀ {α : Type} {E : Enc α} {T cc : Nat} {r : Option Addr} {ll : List α},T ≠ 158 → T ≠ 157 → OwnS E T w.heap.size (Y.alloc (.cells (tpE.enc nz).toArray 158)) r cc ll → OwnS E T w.heap.size S r cc ll := fun {α E T cc r ll} h1 h2 h => own_box (own_pastT h hS1.rk h1 gU) f3U h2 gS
    have kB : ∀ {b : Nat} {o : Obj},b ≠ L + 3 → U.heap[b]? = some o → S.heap[b]? = some o := fun {b o} hb h => (gS.block b (hlt h) (by simpa using hb)).trans h
    have kP : ∀ x : PthR,PthO w.heap.size (Y.alloc (.cells (tpE.enc nz).toArray 158)) x → PthO w.heap.size S x := fun x hx => hx.same fun {α E T c q l} ht ho => kU (by rcases ht with rfl | rfl <;> decide) (by rcases ht with rfl | rfl <;> decide) ho
    refine ⟨kB (by omega) f0U,kB (by omega) f1U,kB (by omega) f2U,fS,kU (by decide) (by decide) hS1.own,own_box oU f3U (by decide) gS,fun z hz => ?_,fun z hz => ?_⟩
    ·rcases List.mem_append.1 hz with hz | hz
     ·exact kU (by decide) (by decide) (hS1.n1 z hz)
     ·rw [List.mem_singleton.1 hz,hnz]
      exact kU (by decide) (by decide) (ork1.lower hZs)
    ·rcases List.mem_append.1 hz with hz | hz
     ·exact fun x hx => kP x (hS1.n2 z hz x hx)
     ·rw [List.mem_singleton.1 hz,hnz]
      exact fun x hx => kP x ((onk1 x hx).mono hZs)
   clear hS1 ork1 onk1 hSY hS oU gU hat1 f0U f1U f2U f3U fS gS
   refine ⟨⟨by decide,by decide,rfl⟩,natE.enc rk.length,rfl,?_⟩
   have hb2 : Below S.heap.size S (S.alloc (.cells (natE.enc rk.length).toArray 3)) := (Below.refl _ _).alloc (Nat.le_refl _) _
   have hS2 := hSS.below hb2
   have sbS := hbS.size
   have sb2 := hb2.size
   unfold opsE stepE
   show SatR _ _
   refine appI hS2.own (one_new natE rk.length) (by omega) (by rw [List.length_map,List.length_take]; omega) fun p2' c2' V' oV gV hat2 => ?_
   rw [own_map] at gV
   have hSV := hS2.size oV gV
   have hzz : ((p.threads.take k).map fun l => (pathsOf V l).length) ++ [rk.length] = (p.threads.take (k + 1)).map fun l => (pathsOf V l).length := by
    rw [hpt,List.map_append,hrkl]; rfl
   rw [hzz] at hSV ⊢
   refine ⟨((k + 1 : Nat) : Int),(wrap_i64 (by omega)).trans (by omega),?_⟩
   refine ⟨(k + 1,(ts ++ [nz],p',c'),p2',c2'),⟨.cons rfl (.cons rfl (.cons rfl (.cons rfl (.cons rfl (.cons rfl (.cons (by show _ = some (i64 (prodT ((p.threads.take (k + 1)).map fun l => (pathsOf V l).length) : Nat)); rw [hA2]; rfl) (.cons rfl (.cons rfl (.cons rfl .nil))))))))),rfl⟩,⟨hkl,hSV,?_,hbS.trans ((hb2.mono sbS).trans (past_below hS2.own (by omega) (Nat.le_refl _) gV))⟩,by show p.threads.length - (k + 1) < p.threads.length - k; omega⟩
   rw [hpt,List.map_append,List.map_append,hz,hnz]
   show _ ++ [rk.map (·.1)] = _ ++ [pathsOf V l]
   rw [hrk]
  ·have hc : ¬ (k : Int) < (p.threads.length : Int) := of_decide_eq_false hc
   obtain rfl : k = p.threads.length := by omega
   rw [List.take_length] at hz hS ⊢
   exact ⟨((ts,pT,cT),ps,cs),⟨.cons rfl (.cons rfl (.cons rfl (.cons rfl (.cons rfl .nil)))),rfl⟩,hS,hz,hbZ⟩
 rintro ⟨⟨ts,pT,cT⟩,ps,cs⟩ X ⟨hS,hz,hbX⟩
 dsimp only at hS hz ⊢
 obtain ⟨Q,hQ⟩ : ∃ Q,Q = X.heap.size := ⟨_,rfl⟩
 refine ⟨Unit,fun _ => ⟨[(2,At0 L),(4,At0 (L + 1)),(5,At0 (L + 2)),(6,At0 (L + 3)),(7,.slice ps (p.threads.map fun l => (pathsOf V l).length).length cs),(13,At0 Q)],[]⟩,fun _ Z => MxS w.heap.size Z L bP (p.threads.map fun l => (pathsOf V l).length) ps cs ts pT cT ∧ Z.heap[Q]? = some (.cells #[.slice none 0 0] 127 (0,0)) ∧ Z.heap.size = Q + 1 ∧ Below w.heap.size w Z,?_,?_⟩
 ·refine ⟨(),⟨.cons rfl (.cons rfl (.cons rfl (.cons rfl (.cons rfl (.cons (by rw [hQ]; rfl) .nil))))),rfl⟩,hS.below ((Below.refl _ X).alloc (Nat.le_refl _) _),by rw [hQ]; exact hnew X _,by rw [hQ]; exact World.size_alloc _ _,hbX.alloc hbX.size _⟩
 have hQw : w.heap.size + 4 ≤ Q := by have := hlt hS.f3; omega
 clear hS hbX hQ
 clear X
 rintro _ X ⟨hS,fQ,sX,hbX⟩
 obtain ⟨Ts,hTs⟩ : ∃ Ts,Ts = p.threads.map (pathsOf V) := ⟨_,rfl⟩
 have hTl : Ts.length = p.threads.length := by rw [hTs,List.length_map]
 have htl : ts.length = p.threads.length := by have := congrArg List.length hz; simpa using this
 have hsz : (p.threads.map fun l => (pathsOf V l).length) = Ts.map List.length := by rw [hTs,List.map_map]; rfl
 rw [hsz] at hS ⊢
 rw [← hTs] at hsome hz ⊢
 have hsl1 : (Ts.map List.length).length ≤ 1000 := by rw [List.length_map]; omega
 have hsl2 : ∀ n ∈ Ts.map List.length,n ≤ 1000000 := fun n hn => by
  rw [hTs,List.map_map] at hn
  obtain ⟨l,hl,rfl⟩ := List.mem_map.1 hn
  have := (hT l hl).m
  show ((endsR l (ded V)).map pathR).length ≤ _
  rw [List.length_map]
  omega
 have hmemT : ∀ z ∈ ts,∀ x ∈ z.1,PathB p.init.length x.1 := fun z hz' x hx => by
  have h1 : z.1.map (·.1) ∈ Ts := by rw [← hz]; exact List.mem_map.2 ⟨z,hz',rfl⟩
  rw [hTs] at h1
  obtain ⟨l,hl,he⟩ := List.mem_map.1 h1
  exact hpb l hl x.1 (by rw [he]; exact List.mem_map.2 ⟨x,hx,rfl⟩)
 refine Calls.mono odoF_c ?_
 rintro e V1 ⟨rfl,fo,sV1,hbV1⟩
 have hI := odo_c fo (hS.own.row.below hbV1) (fun a ha => by have := (own_at hS.own ha).2.1; omega) hsl1 hsl2
 have hS1 := hS.below hbV1
 have hb1 : Below w.heap.size w V1 := hbX.trans (hbV1.mono hbX.size)
 have hG0 : Gath mixE 133 127 Q V1.heap.size Q V1 (NInM w.heap.size) [] (fun k => k = Q) V1 :=
  ⟨Nat.le_refl _,rfl,fun k hk => by omega,⟨none,0,block_below hbV1 fQ,OwnS.nil,fun a h => by cases h⟩,fun x hx => (by cases hx),Below.refl _ _⟩
 obtain ⟨f,hf⟩ : ∃ f : List Nat → Option MixD,f = fun ds => mixR p.init (pickR Ts ds) := ⟨_,rfl⟩
 have hmix : mixesL p.init Ts = (digsR (Ts.map List.length)).filterMap f := by rw [hf]; rfl
 refine rangeG (sgOk _) rfl (lb := #[At0 X.heap.size]) rfl rfl hI (Nat.le_refl _) (fun k hk => ⟨?_,rfl⟩) (fun pre vs W ⟨l,q,_,h,_⟩ => by rw [h]; rfl) (by decide)
  (fun k => k = Q) (fun pre F Y => ∃ ms,(ms.map (·.m) = pre.filterMap f ∧ ms.length ≤ pre.length) ∧ Gath mixE 133 127 Q V1.heap.size Q V1 (NInM w.heap.size) ms F Y) (fun _ _ _ _ => False) (fun k hk => ?_) (Gath.iter (ninM_keep _) (by omega)) (fun ex => ⟨fun _ _ _ _ h => h.elim,fun _ _ _ _ h => h.elim⟩) ⟨[],⟨rfl,Nat.zero_le _⟩,hG0⟩ ?_ ?_ ?_
 ·rcases hk with (rfl | ⟨a,ha,rfl⟩) | h
  ·omega
  ·have := (own_at hS.own ha).2.1; omega
  ·exact h.elim
 ·rcases hk with rfl | ⟨a,ha,rfl⟩
  ·omega
  ·obtain ⟨_,_,cur,hc⟩ := own_at hS.own ha
   intro e
   rw [e,fQ] at hc
   simp at hc
 ·rintro yl pre ds vs F Y hyl hpre hJ0 ⟨l,qd,hlast,rfl,hsl,hcel⟩ hfy ⟨lo,hlo⟩
  have hdx : ds = l := by simpa using hlast
  subst hdx
  refine ⟨rfl,F,KeepsG.refl _ _,hJ0,?_⟩
  rintro O Y2 hY2 ⟨ms,⟨hms,hml⟩,hG2⟩
  have hslY : SlR natE Y2 qd ds := by
   rw [hY2]
   refine slr_same hsl fun a ha => heap_put_old fun e => ?_
   obtain ⟨cur,hcur⟩ := hcel a ha
   rw [e,hlo] at hcur
   cases hcur
  obtain ⟨hdl,hdlt⟩ := digs_at (hpre.subset (List.mem_append_right _ (List.mem_singleton.2 rfl)))
  have hsome1 := hsome ds (hpre.subset (List.mem_append_right _ (List.mem_singleton.2 rfl)))
  rw [List.length_map] at hdl
  have hY2s := hG2.size
  have old : ∀ {k : Nat} {ob : Obj},k < Q → V1.heap[k]? = some ob → Y2.heap[k]? = some ob := fun {k ob} hk h => (hG2.old.block k hk).trans h
  have g0 := old (by omega) hS1.f0
  have g3 := old (by omega) hS1.f3
  have kR : ∀ {α : Type} {E : Enc α} {T cc : Nat} {r : Option Addr} {ll : List α},T ≠ 127 → OwnS E T w.heap.size X r cc ll → OwnS E T w.heap.size Y2 r cc ll := fun {α E T cc r ll} hT h => h.same fun a ha => by
   have hq : a.block ≠ Q := fun e => by
    obtain ⟨_,_,cur,hc⟩ := own_at h ha
    rw [e,fQ] at hc
    simp at hc
    exact hT hc.2.symm
   have := (own_at h ha).2.1
   exact (hG2.old.block _ (by omega)).trans (hbV1.block _ this)
  have rkY := kR (by decide) hS.rk
  have n1Y := fun z hz => kR (by decide) (hS.n1 z hz)
  have n2Y : ∀ z ∈ ts,∀ x ∈ z.1,PthO w.heap.size Y2 x := fun z hz x hx => (hS.n2 z hz x hx).same fun {α E T c q l} ht ho => kR (by rcases ht with rfl | rfl <;> decide) ho
  have fPY : Y2.heap[bP]? = some (.cells pc.toArray 64 (0,0)) := old (by omega) ((hb1.block bP hbP).trans fP)
  have hbwY : Below w.heap.size w Y2 := hb1.trans (hG2.old.mono (by omega))
  refine ⟨Nat × List PthR × Option Addr × Nat,fun s => ⟨[(2,At0 L),(6,At0 (L + 3)),(13,At0 Q),(15,.slice s.2.2.1 s.2.1.length s.2.2.2),(58,.slice qd ds.length ds.length),(59,i64 ds.length),(60,i64 (s.1 : Nat))],[]⟩,
   fun s Z => s.1 ≤ ds.length ∧ OwnS pthE 165 Y2.heap.size Z s.2.2.1 s.2.2.2 s.2.1 ∧ s.2.1.map (·.1) = pickR (Ts.take s.1) (ds.take s.1) ∧ s.2.1.length = s.1 ∧ (∀ x ∈ s.2.1,∃ z ∈ ts,x ∈ z.1) ∧ Below Y2.heap.size Y2 Z,fun s => ds.length - s.1,(0,[],none,0),
   ⟨.cons rfl (.cons rfl (.cons rfl (.cons rfl (.cons rfl (.cons rfl (.cons rfl .nil)))))),rfl⟩,⟨Nat.zero_le _,OwnS.nil,by simp [pickR],rfl,fun x hx => (by cases hx),Below.refl _ _⟩,?_⟩
  rintro ⟨k,Cs,pC,cC⟩ Z ⟨hk,oC,hCs,hCl,hCm,hbZ⟩
  dsimp only at hk oC hCs hCl hCm ⊢
  have hZs := hbZ.size
  refine And.intro (fun hc => ?_) (fun hc => ?_)
  ·have hc : (k : Int) < (ds.length : Int) := of_decide_eq_true hc
   have hkl : k < ds.length := by omega
   have hkt : k < ts.length := by omega
   obtain ⟨z,hzk⟩ : ∃ z,ts[k] = z := ⟨_,rfl⟩
   have hzm : z ∈ ts := by rw [← hzk]; exact List.getElem_mem hkt
   have hkT : k < Ts.length := by omega
   have hzT : Ts[k] = z.1.map (·.1) := by
    have h1 : Ts[k]? = some (z.1.map (·.1)) := by rw [← hz,List.getElem?_map,List.getElem?_eq_getElem hkt,hzk]; rfl
    rw [List.getElem?_eq_getElem hkT] at h1
    exact Option.some.inj h1
   obtain ⟨d,hd⟩ : ∃ d,ds[k] = d := ⟨_,rfl⟩
   have hdz : d < z.1.length := by
    have := hdlt k (Ts[k].length) d (by rw [List.getElem?_map,List.getElem?_eq_getElem hkT]; rfl) (by rw [List.getElem?_eq_getElem hkl,hd])
    rw [hzT,List.length_map] at this
    exact this
   obtain ⟨x,hx⟩ : ∃ x,z.1[d] = x := ⟨_,rfl⟩
   have hxm : x ∈ z.1 := by rw [← hx]; exact List.getElem_mem hdz
   have hpick : pickR (Ts.take (k + 1)) (ds.take (k + 1)) = pickR (Ts.take k) (ds.take k) ++ [x.1] := by
    rw [List.take_succ_eq_append_getElem hkT,List.take_succ_eq_append_getElem hkl,hd,hzT,pickR_snoc _ _ _ _ (by rw [List.length_take,List.length_take]; omega),List.getElem?_map,List.getElem?_eq_getElem hdz,hx]; rfl
   obtain ⟨bD,oD,hpD,hlD,hatD⟩ := (hslY.below hbZ).at hkl
   obtain ⟨bT,oT,hpT,hlT,hatT⟩ := (rkY.below hbZ).row.at hkt
   obtain ⟨bz,oz,hpz,hlz,hatz⟩ := ((n1Y z hzm).below hbZ).row.at hdz
   subst hpD
   subst hpT
   refine ⟨k,rfl,hkl,?_⟩
   refine ⟨i64 d,by have := cells_at (hatD k hkl) (i := 0) (v := i64 d) (by rw [hd]; rfl); exact this,?_⟩
   refine ⟨_,cells_at (cells_block (block_below hbZ g3)) (i := 0) rfl,?_⟩
   refine ⟨k,rfl,hkt,?_⟩
   refine ⟨.slice z.2.1 z.1.length z.2.2,by have := cells_at (hatT k hkt) (i := 0) (v := .slice z.2.1 z.1.length z.2.2) (by rw [hzk]; rfl); exact this,?_⟩
   rw [hpz]
   refine ⟨d,rfl,hdz,?_⟩
   refine ⟨pthE.enc x,pthE.len x,by rw [← hx]; exact hatz d hdz,hlz,?_⟩
   refine ⟨⟨by decide,by decide,rfl⟩,pthE.enc x,fill_one (pthE.len x) rfl,?_⟩
   have hb2 : Below Z.heap.size Z (Z.alloc (.cells (pthE.enc x).toArray 165)) := (Below.refl _ _).alloc (Nat.le_refl _) _
   have sb2 := hb2.size
   unfold opsE stepE
   show SatR _ _
   refine appP (oC.below hb2) (one_new pthE x) (by omega) (by omega) fun p' c' U oU gU hat1 => ?_
   refine ⟨((k + 1 : Nat) : Int),(wrap_i64 (by omega)).trans (by omega),?_⟩
   refine ⟨(k + 1,Cs ++ [x],p',c'),⟨.cons rfl (.cons rfl (.cons rfl (.cons rfl (.cons rfl (.cons rfl (.cons rfl .nil)))))),rfl⟩,⟨hkl,oU,by rw [List.map_append,hCs,hpick]; rfl,by rw [List.length_append,hCl]; rfl,fun y hy => ?_,hbZ.trans ((hb2.mono hZs).trans (past_below (oC.below hb2) (by omega) (Nat.le_refl _) gU))⟩,by show ds.length - (k + 1) < ds.length - k; omega⟩
   rcases List.mem_append.1 hy with hy | hy
   ·exact hCm y hy
   ·rw [List.mem_singleton.1 hy]; exact ⟨z,hzm,hxm⟩
  have hc : ¬ (k : Int) < (ds.length : Int) := of_decide_eq_false hc
  obtain rfl : k = ds.length := by omega
  rw [List.take_length,List.take_of_length_le (by omega)] at hCs
  obtain ⟨q1,k1,q2,k2,q3,k3,q4,k4,hvs,_⟩ := hP0.v.h
  have hpc1 : pc[1]? = some (.slice q1 p.init.length k1) := by rw [hvs,← hil]; rfl
  have hZw : w.heap.size ≤ Z.heap.size := by have := hbwY.size; omega
  refine ⟨_,cells_at (cells_block (block_below hbZ g0)) (i := 0) rfl,?_⟩
  obtain ⟨mx,hmx⟩ : ∃ mx,mixR p.init (Cs.map (·.1)) = some mx := by
   rw [hCs]
   exact Option.isSome_iff_exists.1 hsome1
  have hfd : f ds = some mx := by rw [hf,← hmx,hCs]
  refine Calls.mono (assemble_c (block_below hbZ fPY) hpc1 h2 ((hinit.below ((hbwY.trans (hbZ.mono hbwY.size)).mono hB)).slr (by omega)) hi6 oC.row (fun x hx => ?_) (fun x hx => ?_) (by omega)) ?_
  ·obtain ⟨z,hz1,hx1⟩ := hCm x hx
   obtain ⟨o1,o2,o3,o4⟩ := n2Y z hz1 x hx1
   refine ⟨fun a ha => ?_,(o1.below hbZ).row,(o2.below hbZ).row,(o3.below hbZ).row,(o4.below hbZ).row⟩
   rcases ha with ha | ha | ha
   ·exact (own_at (o2.below hbZ) ha).2.1
   ·exact (own_at (o3.below hbZ) ha).2.1
   ·exact (own_at (o4.below hbZ) ha).2.1
  ·obtain ⟨z,hz1,hx1⟩ := hCm x hx
   exact hmemT z hz1 x hx1
  rintro e U ⟨⟨vs,hres⟩,hbU⟩
  rw [hmx] at hres
  obtain ⟨rfl,x1,x2,x3,x4,y1,y2,y3,y4,xs',ys',hvs',m1,m2,m3,m4,m5,m6,m7,m8⟩ := hres
  obtain ⟨nx,hnx⟩ : ∃ nx : MixX,nx = ⟨mx,x1,y1,x2,y2,x3,y3,x4,y4,xs',ys'⟩ := ⟨_,rfl⟩
  have hen : vs = mixE.enc nx := by rw [hvs',hnx]; rfl
  have hvl : vs.length = 336 := by rw [hen]; exact mixE.len nx
  have hv1 : vs.all Value.oneCell' = true := by rw [hen]; exact mixC_one nx
  have hUs := hbU.size
  refine store_new (X := U) (v := .agg vs.toArray) (ttOk.get 133 _ rfl) hvl ztmix_len hv1 fun V' hbV fV sV => ?_
  have fV : V'.heap[U.heap.size]? = some (.cells vs.toArray 133 (0,0)) := fV
  refine brF ?_
  have hbY2V : Below Y2.heap.size Y2 V' := (hbZ.trans (hbU.mono hZs)).trans (hbV.mono (by omega))
  obtain ⟨pr,cr,h4,h5,h6⟩ := hG2.row
  refine ⟨_,cells_at (cells_block (block_below hbY2V h4)) (i := 0) rfl,?_⟩
  refine ⟨vs,hvl,cells_block fV,hlt fV,?_⟩
  refine ⟨⟨by decide,by decide,ztmix_len⟩,mixE.enc nx,by rw [← hen]; exact fill_one hvl ztmix_len,?_⟩
  have hpl : pre.length < 1000000000 := by
   obtain ⟨t,ht⟩ := hpre
   have h7 : (pre ++ [ds] ++ t).length = prodL (Ts.map List.length).reverse := by
    rw [ht]; unfold digsR
    rw [List.length_map,List.length_range]
   have h8 : prodL (Ts.map List.length).reverse ≤ 4096 := by
    have h9 := hall p.threads.length (Nat.le_refl _)
    rw [List.take_length,hsz] at h9
    rw [prodL_rev]
    exact h9
   simp only [List.length_append,List.length_cons] at h7
   omega
  have hnw : ∀ (G : Nat → Prop) (S : World),(∀ k,Y2.heap.size ≤ k → k < V'.heap.size → S.heap[k]? = V'.heap[k]?) → (∀ k,Y2.heap.size ≤ k → k < V'.heap.size → G k) → NInM w.heap.size G S nx := by
   intro G S hs hg
   have kp : ∀ {α : Type} {E : Enc α} {T cc : Nat} {r : Option Addr} {ll : List α},OwnS E T Z.heap.size U r cc ll → RowIn E T w.heap.size G S r cc ll := fun {α E T cc r ll} h => by
    have ol : ∀ a,r = some a → Y2.heap.size ≤ a.block ∧ a.block < V'.heap.size := fun a ha => ⟨by have := (own_at h ha).1; omega,by have := (own_at h ha).2.1; omega⟩
    exact ⟨OwnS.lower ((h.below hbV).same fun a ha => hs _ (ol a ha).1 (ol a ha).2) hZw,fun a ha => hg _ (ol a ha).1 (ol a ha).2⟩
   rw [hnx]
   exact ⟨m3,m6,kp m1,kp m2,kp m4,fun y hy => kp (m5 y hy),kp m7,fun y hy => kp (m8 y hy)⟩
  obtain ⟨v,Y5,hrun,S,hrun2,F',hG',hK',hFF'⟩ := hG2.step (P := Tryz.prog) (ty := 127) (cap1 := 1) (ninM_keep _) (by decide) Tryz.underlying127 (ttOk.get 133 _ rfl) rfl rfl (by show _ = 336; exact ztmix_len) (ttOk.get 127 _ rfl) rfl (by omega) (Nat.le_refl _) hbY2V nx (by omega) (by show (ms.length + 1) * 2488 ≤ _; omega) hnw pr cr h4
  unfold opsE stepE
  refine SatR.mk hrun ?_
  refine SatR.mk hrun2 ?_
  refine ⟨F',⟨_,⟨?_,by rw [List.length_append,List.length_append]; show ms.length + 1 ≤ pre.length + 1; omega⟩,hG'⟩,hK'⟩
  rw [List.map_append,List.filterMap_append,hms]
  show _ ++ [nx.m] = _ ++ List.filterMap f [ds]
  rw [show List.filterMap f [ds] = [mx] by rw [List.filterMap_cons,hfd]; rfl,hnx]
 ·rintro D F Y hD hfD ⟨ms,⟨hms,hml⟩,hG⟩ hdef
  obtain ⟨pr,cr,h4,h5,h6⟩ := hG.row
  have hYs := hG.size
  have old : ∀ {k : Nat} {ob : Obj},k < Q → V1.heap[k]? = some ob → Y.heap[k]? = some ob := fun {k ob} hk h => (hG.old.block k hk).trans h
  have g1 := old (by omega) hS1.f1
  have g2 := old (by omega) hS1.f2
  refine ⟨_,cells_at (cells_block h4) (i := 0) rfl,?_⟩
  refine store_one (ttOk.get 127 _ rfl) g1 (o := 0) (v := .slice pr ms.length cr) rfl rfl (by show 0 < 1; decide) rfl fun Z1 fZ1 gZ1 sZ1 => ?_
  refine store_one (ttOk.get 4 _ rfl) ((gZ1.block (L + 2) (hlt g2) (by simp)).trans g2) (o := 0) (v := .bool true) rfl rfl (by show 0 < 1; decide) rfl fun Z2 fZ2 gZ2 sZ2 => ?_
  have k2 : ∀ k,k < Y.heap.size → k ≠ L + 1 → k ≠ L + 2 → Z2.heap[k]? = Y.heap[k]? := fun k hk n1 n2 => (gZ2.block k (by rw [sZ1]; exact hk) (by simpa using n2)).trans (gZ1.block k hk (by simpa using n1))
  refine ⟨_,rfl,(k2 D (hlt hdef) (by omega) (by omega)).trans hdef,?_⟩
  have f2' := (gZ2.block (L + 1) (hlt fZ1) (by simp)).trans fZ1
  have kp : ∀ a : Addr,a.block ≠ L + 1 → a.block ≠ L + 2 → F a.block → a.block < Y.heap.size → (Z2.putObj D (.deferred none)).heap[a.block]? = Y.heap[a.block]? := fun a n1 n2 h2 h3 => (heap_put_old fun e => by rw [← e] at hfD; exact hfD h2).trans (k2 _ h3 n1 n2)
  have hwY := hb1.trans (hG.old.mono (by omega))
  have b2 := (hwY.trans (below_grown gZ1 hwY.size (by omega))).trans (below_grown gZ2 (by have := hwY.size; omega) (by omega))
  have ne : ∀ {α : Type} {E : Enc α} {T B' cc : Nat} {r : Option Addr} {ll : List α},T ≠ 127 → T ≠ 4 → OwnS E T B' Y r cc ll → ∀ a,r = some a → a.block ≠ L + 1 ∧ a.block ≠ L + 2 := fun {α E T B' cc r ll} t1 t2 h a ha => by
   obtain ⟨_,_,cur,hc⟩ := own_at h ha
   refine ⟨fun e => ?_,fun e => ?_⟩
   ·rw [e,g1] at hc
    simp at hc
    exact t1 hc.2.symm
   ·rw [e,g2] at hc
    simp at hc
    exact t2 hc.2.symm
  refine ⟨.slice pr ms.length cr,cells_at (cells_block ((heap_put_old (by omega)).trans f2')) (i := 0) rfl,.bool true,cells_at (cells_block ((heap_put_old (by omega)).trans fZ2)) (i := 0) rfl,⟨ms,pr,cr,rfl,by rw [hms,hmix],?_,fun x hx => ?_⟩,below_put b2 (by omega) _⟩
  ·exact OwnS.lower (h5.same fun a ha => kp a (ne (by decide) (by decide) h5 a ha).1 (ne (by decide) (by decide) h5 a ha).2 (h6 a ha) (own_at h5 ha).2.1) (by omega)
  ·exact (hG.nest x hx).same fun {α E T c q l} t1 t2 t3 hr => ⟨hr.own.same fun a ha => kp a (ne t2 t3 hr.own a ha).1 (ne t2 t3 hr.own a ha).2 (hr.inF a ha) (own_at hr.own ha).2.1,fun a ha => (own_at hr.own ha).1⟩
 ·rintro D ex pre F Y hD hfD hpre h
  exact h.elim
end
end Go.Proofs.YtkpcgpmimejimaaGreatDoor
namespace Go.Proofs.YtkpcgpmimejimaaGreatDoor
open Go.Vc Go.RowKit Go.Sei
abbrev choicesOf (p : Prg) (V : List UInt8) : List MixD := mixesL p.init (p.threads.map (pathsOf V))
def candsOf (m : MixD) : List ExD := if cntR m 1 = 0 then [] else candsM m
abbrev candsP (p : Prg) (V : List UInt8) : List ExD := (choicesOf p V).flatMap candsOf
structure CandQ (p : Prg) (n : Nat) (V : List UInt8) (most : Nat) : Prop where
 ok : okPrg p = true
 il : p.locs.length = p.init.length
 i1 : 1 ≤ p.init.length
 i6 : p.init.length ≤ 6
 is : srt8 p.init = true
 vals : valsQ p.threads n (ded p.init) = some V
 v1 : 1 ≤ V.length
 v12 : V.length ≤ 12
 vs : srt8 V = true
 d12 : (ded V).length ≤ 12
 t4 : p.threads.length ≤ 4
 th : ∀ l ∈ p.threads,ThrQ V l
 all : ∀ k,k ≤ p.threads.length → prodT ((p.threads.take k).map fun l => (pathsOf V l).length) ≤ 4096
 pb : ∀ l ∈ p.threads,∀ P ∈ pathsOf V l,PathB p.init.length P
 some : ∀ ds ∈ digsR ((p.threads.map (pathsOf V)).map List.length),(mixR p.init (pickR (p.threads.map (pathsOf V)) ds)).isSome = true
 ml : (choicesOf p V).length ≤ 5000
 mb : ∀ m ∈ choicesOf p V,MixB m
 m20 : most ≤ 20000
 cnt : ((choicesOf p V).map fun m => cntR m 20001).sum ≤ most
 len : (candsP p V).length ≤ 30000
theorem sum_take {l : List Nat} (k : Nat) : (l.take k).sum ≤ l.sum := by
 have : l.sum = (l.take k).sum + (l.drop k).sum := by rw [← List.sum_append,List.take_append_drop]
 omega
theorem cntF_eq {m : MixD} {xs ys : List NatL} {lim : Nat} (h1 : xs.map (·.1) = m.rs.map (·.2)) (h2 : ys.map (·.1) = m.wr) : cntF lim (xs.map (·.1)) (ys.map (·.1)) = cntR m lim := by
 rw [h1,h2]; rfl
section
variable {w : World} {B n most : Nat} {pc : List Value} {p : Prg} {V : List UInt8}
theorem Cands_c (hB : B ≤ w.heap.size) (hP : PrgX B w pc p) (hG : GlobE w) (hQ : CandQ p n V most) :
  Calls Tryz.prog 52 #[.agg pc.toArray,i64 most] w fun e w' => (∃ (xs : List exE3) (q : Option Addr) (c : Nat),e = .returned (.tuple #[.slice q xs.length c,i64 0]) ∧ xs.map (·.1) = candsP p V ∧ OwnS exE 34 w.heap.size w' q c xs ∧ ∀ x ∈ xs,OwnS evE 52 w.heap.size w' x.2.1 x.2.2 x.1.ev) ∧ Below w.heap.size w w' := by
 refine calls_of_M (S := sg 74) (sgOk _) (args := [.agg pc.toArray,i64 most]) (.c .p (.s .p (.s .p (.s .p (.c .p (.s .p (.s .p (.c .p (.c .p (.c .p .p)))))))))) Tryz.func52 rfl rfl (Nat.le_of_ble_eq_true rfl) rfl ?_
 obtain ⟨L,hL⟩ : ∃ L,L = w.heap.size := ⟨_,rfl⟩
 have hpc := hP.v.size
 have hm20 := hQ.m20
 refine ⟨Unit,fun _ => ⟨[(1,i64 most),(2,At0 L)],[]⟩,fun _ X => X.heap[L]? = some (.cells pc.toArray 64 (0,0)) ∧ L < X.heap.size ∧ Below w.heap.size w X,⟨(),⟨.cons rfl (.cons (by rw [hL]; rfl) .nil),rfl⟩,by rw [hL]; exact hnew w _,by rw [hL]; exact hlt (hnew w _),(Below.refl _ w).alloc (Nat.le_refl _) _⟩,?_⟩
 rintro _ X ⟨f0,sX,hbX⟩
 refine brN (decide_eq_false (by omega)) ?_
 refine brN (decide_eq_false (by omega)) ?_
 refine ⟨pc,hpc,cells_block f0,hlt f0,?_⟩
 refine Calls.mono (Right_c (Nat.le_trans hB hbX.size) (hP.v.below (hbX.mono hB)) (hG.c.below hbX)) ?_
 rintro e Y ⟨m,rfl,hm,hbY⟩
 have hm0 : m = 0 := hm.2 hQ.ok
 subst hm0
 refine brF ?_
 have hwY := hbX.trans (hbY.mono hbX.size)
 have f0 := block_below hbY f0
 refine ⟨pc,hpc,cells_block f0,hlt f0,?_⟩
 refine Calls.mono (Values_c (Nat.le_trans hB hwY.size) (hP.below (hwY.mono hB)) (hG.below hwY) hQ.ok (fun l hl => (hQ.th l hl).ex) (fun l hl => (hQ.th l hl).l12) hQ.i1 (by have := hQ.i6; omega) hQ.is hQ.vals) ?_
 rintro e Z ⟨⟨qv,cv,rfl,oV⟩,hbZ⟩
 refine brF ?_
 have hwZ := hwY.trans (hbZ.mono hwY.size)
 have f0 := block_below hbZ f0
 clear hbX hbY hwY
 obtain ⟨V0,hV0⟩ : ∃ V0,V0 = V := ⟨_,rfl⟩
 refine ⟨List MixX × Option Addr × Nat,fun s => ⟨[(1,i64 most),(8,.slice s.2.1 s.1.length s.2.2),(9,.bool true)],[]⟩,fun s U => s.1.map (·.m) = choicesOf p V ∧ OwnS mixE 133 w.heap.size U s.2.1 s.2.2 s.1 ∧ (∀ x ∈ s.1,NInM w.heap.size (fun k => w.heap.size ≤ k) U x) ∧ Below w.heap.size w U,?_,?_⟩
 ·refine Calls.mono (mixes_c f0 (Nat.le_trans hB hwZ.size) (hP.below (hwZ.mono hB)) hQ.il hQ.i6 (hG.below hwZ) oV.row hQ.v1 hQ.v12 hQ.vs hQ.d12 hQ.t4 hQ.th hQ.all hQ.pb hQ.some) ?_
  rintro e U ⟨⟨ms,q,c,rfl,hms,oM,nM⟩,hbU⟩
  exact ⟨(ms,q,c),⟨.cons rfl (.cons rfl (.cons rfl .nil)),rfl⟩,hms,oM.lower hwZ.size,fun x hx => (nM x hx).lower hwZ.size,hwZ.trans (hbU.mono hwZ.size)⟩
 clear oV hbZ hwZ f0
 rintro ⟨ms,q,c⟩ X ⟨hms,oM,nM,hbX⟩
 dsimp only at hms oM nM ⊢
 refine brF ?_
 have hml : ms.length ≤ 5000 := by have := hQ.ml; rw [← hms,List.length_map] at this; exact this
 have hmb : ∀ x ∈ ms,MixB x.m := fun x hx => hQ.mb x.m (by rw [← hms]; exact List.mem_map.2 ⟨x,hx,rfl⟩)
 have hsum : (ms.map fun x => cntR x.m 20001).sum ≤ most := by
  have := hQ.cnt
  rw [← hms,List.map_map] at this
  exact this
 have htake : ∀ k,((ms.take k).map fun x => cntR x.m 20001).sum ≤ most := fun k => by
  have := sum_take (l := ms.map fun x => cntR x.m 20001) k
  rw [← List.map_take] at this
  omega
 obtain ⟨tot,htot⟩ : ∃ tot,tot = (ms.map fun x => cntR x.m 20001).sum := ⟨_,rfl⟩
 have cnt : ∀ {Z : World} {k lim : Nat} (hk : k < ms.length),OwnS mixE 133 w.heap.size Z q c ms → (∀ x ∈ ms,NInM w.heap.size (fun k => w.heap.size ≤ k) Z x) → 1 ≤ lim → lim ≤ 100000 → ∃ b o,q = some ⟨b,o,none⟩ ∧ Calls Tryz.prog 76 #[.pointer (some ⟨b,o + k * 336,none⟩),i64 lim] Z fun e w' => e = .returned (i64 (cntR ms[k].m lim : Nat)) ∧ Z = w' := fun {Z k lim} hk oM nM h1 h2 => by
  obtain ⟨b,o,hq,hb,hat⟩ := oM.row.at hk
  have hx := nM ms[k] (List.getElem_mem hk)
  have hb1 := hmb ms[k] (List.getElem_mem hk)
  have hxl : ms[k].xs.length = ms[k].m.rs.length := by have := congrArg List.length hx.e2; simpa using this
  have hyl : ms[k].ys.length = ms[k].m.wr.length := by have := congrArg List.length hx.e3; simpa using this
  refine ⟨b,o,hq,?_⟩
  have := count_c (lim := lim) (r := .slice ms[k].p1 ms[k].m.rs.length ms[k].c1) (hat k hk) hx.r2.own.row hx.r3.own.row (fun y hy => ?_) (fun y hy => ?_) (by have := hb1.rl; omega) (by have := hb1.wl; omega) h1 h2
  ·rw [cntF_eq hx.e2 hx.e3] at this
   exact this
  ·have h3 : y.1 ∈ ms[k].m.rs.map (·.2) := by rw [← hx.e2]; exact List.mem_map.2 ⟨y,hy,rfl⟩
   obtain ⟨r,hr,he⟩ := List.mem_map.1 h3
   rw [← he]; exact (hb1.rs r hr).2.1
  ·have h3 : y.1 ∈ ms[k].m.wr := by rw [← hx.e3]; exact List.mem_map.2 ⟨y,hy,rfl⟩
   have := (hb1.wr _ h3).1
   omega
 refine ⟨Unit,fun _ => ⟨[(8,.slice q ms.length c),(10,i64 tot)],[]⟩,fun _ Z => X = Z,?_,?_⟩
 ·refine ⟨Nat,fun k => ⟨[(1,i64 most),(8,.slice q ms.length c),(10,i64 (((ms.take k).map fun x => cntR x.m 20001).sum : Nat)),(40,i64 ms.length),(41,i64 (k : Nat))],[]⟩,
   fun k Z => k ≤ ms.length ∧ X = Z,fun k => ms.length - k,0,⟨.cons rfl (.cons rfl (.cons rfl (.cons rfl (.cons rfl .nil)))),rfl⟩,⟨Nat.zero_le _,rfl⟩,?_⟩
  rintro k _ ⟨hk,rfl⟩
  dsimp only
  refine And.intro (fun hc => ?_) (fun hc => ?_)
  ·have hc : (k : Int) < (ms.length : Int) := of_decide_eq_true hc
   have hkl : k < ms.length := by omega
   obtain ⟨b,o,hq,hcall⟩ := cnt (lim := 20001) hkl oM nM (by decide) (by decide)
   have htk : ((ms.take (k + 1)).map fun x => cntR x.m 20001).sum = ((ms.take k).map fun x => cntR x.m 20001).sum + cntR ms[k].m 20001 := by
    rw [List.take_succ_eq_append_getElem hkl,List.map_append,List.sum_append]
    show _ + (cntR ms[k].m 20001 + 0) = _
    rw [Nat.add_zero]
   have h1 := htake (k + 1)
   subst hq
   refine ⟨k,rfl,hkl,?_⟩
   refine Calls.mono hcall ?_
   rintro e _ ⟨rfl,rfl⟩
   refine ⟨((((ms.take (k + 1)).map fun x => cntR x.m 20001).sum : Nat) : Int),?_,?_⟩
   ·rw [htk,Int.natCast_add]
    exact wrap_i64 (by omega)
   refine brN (decide_eq_false (by omega)) ?_
   refine ⟨((k + 1 : Nat) : Int),(wrap_i64 (by omega)).trans (by omega),?_⟩
   exact ⟨k + 1,⟨.cons rfl (.cons rfl (.cons rfl (.cons rfl (.cons rfl .nil)))),rfl⟩,⟨hkl,rfl⟩,by show ms.length - (k + 1) < ms.length - k; omega⟩
  ·have hc : ¬ (k : Int) < (ms.length : Int) := of_decide_eq_false hc
   obtain rfl : k = ms.length := by omega
   rw [List.take_length,← htot]
   exact ⟨(),⟨.cons rfl (.cons rfl .nil),rfl⟩,rfl⟩
 rintro _ _ rfl
 have hXs := hbX.size
 refine ⟨Option Addr × Nat,fun s => ⟨[(8,.slice q ms.length c),(12,.slice s.1 0 s.2)],[]⟩,fun s Z => OwnS exE 34 X.heap.size Z s.1 s.2 [] ∧ Below X.heap.size X Z,?_,?_⟩
 ·refine make_own (E := exE) Tryz.underlying55 (ttOk.get 34 _ rfl) rfl (by show _ = 333; exact ztex_len) rfl tot (by show 2416 * tot ≤ _; omega) (by unfold maxLen; omega) fun Z oZ hbZ sZ => ?_
  exact ⟨(some ⟨X.heap.size,0,none⟩,tot),⟨.cons rfl (.cons rfl .nil),rfl⟩,oZ,hbZ⟩
 rintro ⟨p0,c0⟩ Y ⟨oY,hbY⟩
 dsimp only at oY ⊢
 refine ⟨List exE3 × Option Addr × Nat,fun s => ⟨[(12,.slice s.2.1 s.1.length s.2.2)],[]⟩,fun s Z => s.1.map (·.1) = candsP p V ∧ OwnS exE 34 X.heap.size Z s.2.1 s.2.2 s.1 ∧ (∀ x ∈ s.1,OwnS evE 52 X.heap.size Z x.2.1 x.2.2 x.1.ev) ∧ Below X.heap.size X Z,?_,?_⟩
 ·refine ⟨Nat × List exE3 × Option Addr × Nat,fun s => ⟨[(8,.slice q ms.length c),(12,.slice s.2.2.1 s.2.1.length s.2.2.2),(57,i64 ms.length),(58,i64 (s.1 : Nat))],[]⟩,
   fun s Z => s.1 ≤ ms.length ∧ s.2.1.map (·.1) = (ms.take s.1).flatMap (fun x => candsOf x.m) ∧ OwnS exE 34 X.heap.size Z s.2.2.1 s.2.2.2 s.2.1 ∧ (∀ x ∈ s.2.1,OwnS evE 52 X.heap.size Z x.2.1 x.2.2 x.1.ev) ∧ Below X.heap.size X Z,fun s => ms.length - s.1,(0,[],p0,c0),
   ⟨.cons rfl (.cons rfl (.cons rfl (.cons rfl .nil))),rfl⟩,⟨Nat.zero_le _,rfl,oY,fun x hx => (by cases hx),hbY⟩,?_⟩
  clear oY hbY
  rintro ⟨k,outs,po,co⟩ Z ⟨hk,hou,oZ,nZ,hbZ⟩
  dsimp only at hk hou oZ nZ ⊢
  have hZs := hbZ.size
  have oMZ : OwnS mixE 133 w.heap.size Z q c ms := oM.same fun a ha => hbZ.block _ (own_at oM ha).2.1
  have nMZ : ∀ x ∈ ms,NInM w.heap.size (fun k => w.heap.size ≤ k) Z x := fun x hx => (nM x hx).same fun {α E T c q l} _ _ _ hr => ⟨hr.own.same fun a ha => hbZ.block _ (own_at hr.own ha).2.1,hr.inF⟩
  refine And.intro (fun hc => ?_) (fun hc => ?_)
  ·have hc : (k : Int) < (ms.length : Int) := of_decide_eq_true hc
   have hkl : k < ms.length := by omega
   obtain ⟨b,o,hq,hcall⟩ := cnt (lim := 1) hkl oMZ nMZ (by decide) (by decide)
   obtain ⟨x,hx⟩ : ∃ x,ms[k] = x := ⟨_,rfl⟩
   have hxm : x ∈ ms := by rw [← hx]; exact List.getElem_mem hkl
   have htk : (ms.take (k + 1)).flatMap (fun x => candsOf x.m) = (ms.take k).flatMap (fun x => candsOf x.m) ++ candsOf x.m := by
    rw [List.take_succ_eq_append_getElem hkl,List.flatMap_append,hx,List.flatMap_cons,List.flatMap_nil,List.append_nil]
   rw [hx] at hcall
   have hat : Cells Z ⟨b,o + k * 336,none⟩ (mixC x) := by
    obtain ⟨b',o',hq',_,hat⟩ := oMZ.row.at hkl
    rw [hq] at hq'
    have := hat k hkl
    simp only [Option.some.injEq,Addr.mk.injEq,and_true] at hq'
    rw [← hx,hq'.1,hq'.2]
    exact this
   have hbX2 : b < X.heap.size := (own_at oM hq).2.1
   subst hq
   refine ⟨k,rfl,hkl,?_⟩
   refine Calls.mono hcall ?_
   rintro e _ ⟨rfl,rfl⟩
   refine And.intro (fun h => ?_) (fun h => ?_)
   ·have h : cntR x.m 1 = 0 := Int.ofNat.inj (of_decide_eq_true h)
    have hc0 : candsOf x.m = [] := if_pos h
    rw [hc0,List.append_nil] at htk
    refine ⟨((k + 1 : Nat) : Int),(wrap_i64 (by omega)).trans (by omega),?_⟩
    exact ⟨(k + 1,outs,po,co),⟨.cons rfl (.cons rfl (.cons rfl (.cons rfl .nil))),rfl⟩,⟨hkl,by rw [hou,htk],oZ,nZ,hbZ⟩,by show ms.length - (k + 1) < ms.length - k; omega⟩
   have h : cntR x.m 1 ≠ 0 := fun e => (of_decide_eq_false h) (by rw [e]; rfl)
   have hc1 : candsOf x.m = candsM x.m := if_neg h
   rw [hc1] at htk
   refine ⟨k,rfl,hkl,?_⟩
   refine Calls.mono candF_c ?_
   rintro e U ⟨rfl,fU,sU,hbU⟩
   have hxM := nMZ x hxm
   have hxB := hmb x hxm
   obtain ⟨Rd,hRd⟩ : ∃ Rd : Nat → Prop,Rd = fun k => k < X.heap.size ∨ k = Z.heap.size := ⟨_,rfl⟩
   have ltX : ∀ {α : Type} {E : Enc α} {T cc : Nat} {r : Option Addr} {ll : List α},RowIn E T w.heap.size (fun k => w.heap.size ≤ k) X r cc ll → ∀ a,r = some a → Rd a.block := fun {α E T cc r ll} h a ha => by rw [hRd]; exact .inl (own_at h.own ha).2.1
   have hX := nM x hxm
   have hM : MixM Rd U b (o + k * 336) x.m x.q x.c x.p1 x.p2 x.p3 x.c1 x.c2 x.c3 x.xs x.ys := by
    have r : ∀ {α : Type} {E : Enc α} {T cc : Nat} {r : Option Addr} {ll : List α},RowIn E T w.heap.size (fun k => w.heap.size ≤ k) Z r cc ll → SlR E U r ll := fun {α E T cc r ll} h => (h.own.below hbU).row
    refine ⟨cells_below hbU hat,r hxM.ev,fun e => ?_,r hxM.r1,hxM.e2,r hxM.r2,fun y hy => r (hxM.n2 y hy),hxM.e3,r hxM.r3,fun y hy => r (hxM.n3 y hy),by rw [hRd]; exact .inl hbX2,ltX hX.ev,ltX hX.r1,ltX hX.r2,ltX hX.r3,fun y hy => ltX (hX.n2 y hy),fun y hy => ltX (hX.n3 y hy)⟩
    rcases hxM.ev.own.inv with ⟨_,h,_⟩ | ⟨g,cur,h,_⟩
    ·exact h
    ·rw [e] at h; cases h
   have hRl : ∀ k,Rd k → k < U.heap.size := fun k hk => by
    rw [hRd] at hk
    omega
   have hTU : Tz64M U := hG.t64.below (hbX.trans ((hbZ.trans (hbU.mono hZs)).mono hXs))
   have htz := tz64_in hG.t64
   have hI := cand1_c hM fU (by rw [hRd]; exact .inr rfl) hRl hTU (by rw [hRd]; left; omega) hxB hxB.ev
   have hln : outs.length + (candsM x.m).length ≤ 30000 := by
    have h2 := hQ.len
    have h3 : (candsP p V) = ms.flatMap (fun x => candsOf x.m) := by
     show (choicesOf p V).flatMap candsOf = _
     rw [← hms,List.flatMap_map]
    rw [h3] at h2
    have h4 : ms.flatMap (fun x => candsOf x.m) = (ms.take (k + 1)).flatMap (fun x => candsOf x.m) ++ (ms.drop (k + 1)).flatMap (fun x => candsOf x.m) := by rw [← List.flatMap_append,List.take_append_drop]
    rw [h4,htk,← hou,List.length_append,List.length_append,List.length_map] at h2
    omega
   refine Calls.mono (AppendSeq_c (oZ.below hbU) (fun y hy => (nZ y hy).below hbU) (by omega) hI (Nat.le_refl _) (fun k hk => ⟨hRl k hk,rfl⟩) (fun k hk => by rw [hRd] at hk; exact hk) fU (by omega) hln) ?_
   rintro e T ⟨⟨new,pn,cn,rfl,hnew,oT,nT⟩,hbT⟩
   refine ⟨((k + 1 : Nat) : Int),(wrap_i64 (by omega)).trans (by omega),?_⟩
   exact ⟨(k + 1,outs ++ new,pn,cn),⟨.cons rfl (.cons rfl (.cons rfl (.cons rfl .nil))),rfl⟩,⟨hkl,by rw [List.map_append,hou,hnew,htk],oT,nT,(hbZ.trans (hbU.mono hZs)).trans hbT⟩,by show ms.length - (k + 1) < ms.length - k; omega⟩
  ·have hc : ¬ (k : Int) < (ms.length : Int) := of_decide_eq_false hc
   obtain rfl : k = ms.length := by omega
   rw [List.take_length] at hou
   refine ⟨(outs,po,co),⟨.cons rfl .nil,rfl⟩,?_,oZ,nZ,hbZ⟩
   rw [hou]
   show ms.flatMap _ = (choicesOf p V).flatMap candsOf
   rw [← hms,List.flatMap_map]
 rintro ⟨outs,po,co⟩ Z ⟨hou,oZ,nZ,hbZ⟩
 exact ⟨⟨outs,po,co,rfl,hou,oZ.lower hXs,fun x hx => (nZ x hx).lower hXs⟩,hbX.trans (hbZ.mono hXs)⟩
end
end Go.Proofs.YtkpcgpmimejimaaGreatDoor
namespace Go.Proofs.YtkpcgpmimejimaaGreatDoor
open Go.Vc Go.RowKit Go.Sei
def exOkB (x : InsD) : Bool := (decide (x.op = 1) && decide (x.dst.toNat < 8)) || ((decide (x.op = 2) && (!x.ar || decide (x.an.toNat < 8))) || decide (x.op = 7))
theorem exOk_of {x : InsD} (h : exOkB x = true) : ExOk x := by
 unfold exOkB at h
 simp only [Bool.or_eq_true,Bool.and_eq_true,decide_eq_true_eq,Bool.not_eq_true'] at h
 rcases h with ⟨h1,h2⟩ | ⟨h1,h2⟩ | h1
 ·exact .inl ⟨h1,h2⟩
 ·refine .inr (.inl ⟨h1,fun h => ?_⟩)
  rcases h2 with h2 | h2
  ·rw [h] at h2; cases h2
  ·exact h2
 ·exact .inr (.inr h1)
def pathB (locs : Nat) (P : PathD) : Bool :=
 decide (P.ev.length ≤ 24) && ((P.ev.all fun e => !(decide (e.k = 1) || decide (e.k = 2)) || decide (e.l.toNat < locs)) && ((P.data.all fun p => decide (p.1 < P.ev.length) && decide (p.2 < P.ev.length)) && ((P.ctrl.all fun p => decide (p.1 < P.ev.length) && decide (p.2 < P.ev.length)) && ((P.rmw.all fun p => decide (p.1 < P.ev.length) && decide (p.2 < P.ev.length)) &&
  (decide (P.data.length ≤ 100000) && (decide (P.ctrl.length ≤ 100000) && decide (P.rmw.length ≤ 100000)))))))
theorem pathB_of {locs : Nat} {P : PathD} (h : pathB locs P = true) : PathB locs P := by
 unfold pathB at h
 simp only [Bool.and_eq_true,Bool.or_eq_true,decide_eq_true_eq,List.all_eq_true,Bool.not_eq_true',Bool.or_eq_false_iff,decide_eq_false_iff_not] at h
 obtain ⟨h1,h2,h3,h4,h5,h6,h7,h8⟩ := h
 refine ⟨h1,fun e he hk => ?_,h3,h4,h5,h6,h7,h8⟩
 rcases h2 e he with h | h
 ·rcases hk with hk | hk
  ·exact (h.1 hk).elim
  ·exact (h.2 hk).elim
 ·exact h
def candQB (p : Prg) (n : Nat) (V : List UInt8) (most : Nat) : Bool :=
 okPrg p && (decide (p.locs.length = p.init.length) && (decide (1 ≤ p.init.length) && (decide (p.init.length ≤ 6) && (srt8 p.init && (decide (valsQ p.threads n (ded p.init) = some V) && (decide (1 ≤ V.length) && (decide (V.length ≤ 12) && (srt8 V && (decide ((ded V).length ≤ 12) && (decide (p.threads.length ≤ 4) &&
  ((p.threads.all fun l => decide (l.length ≤ 12) && (l.all exOkB && (threadB l 6 && decide ((endsR l (ded V)).length ≤ 4096)))) &&
   (((List.range (p.threads.length + 1)).all fun k => decide (prodT ((p.threads.take k).map fun l => (pathsOf V l).length) ≤ 4096)) &&
    ((p.threads.all fun l => (pathsOf V l).all (pathB p.init.length)) &&
     (((digsR ((p.threads.map (pathsOf V)).map List.length)).all fun ds => (mixR p.init (pickR (p.threads.map (pathsOf V)) ds)).isSome) &&
      (decide ((choicesOf p V).length ≤ 5000) && ((choicesOf p V).all mixOk && (decide (most ≤ 20000) && (decide (((choicesOf p V).map fun m => cntR m 20001).sum ≤ most) && decide ((candsP p V).length ≤ 30000)))))))))))))))))))
theorem candQ_of {p : Prg} {n : Nat} {V : List UInt8} {most : Nat} (h : candQB p n V most = true) : CandQ p n V most := by
 unfold candQB at h
 simp only [Bool.and_eq_true,decide_eq_true_eq,List.all_eq_true,List.mem_range] at h
 obtain ⟨h1,h2,h3,h4,h5,h6,h7,h8,h9,h10,h11,h12,h13,h14,h15,h16,h17,h18,h19,h20⟩ := h
 exact ⟨h1,h2,h3,h4,h5,h6,h7,h8,h9,h10,h11,fun l hl => ⟨(h12 l hl).1,fun x hx => exOk_of ((h12 l hl).2.1 x hx),(h12 l hl).2.2.1,(h12 l hl).2.2.2⟩,fun k hk => h13 k (by omega),fun l hl P hP => pathB_of (h14 l hl P hP),h15,h16,fun m hm => mixB_of (h17 m hm),h18,h19,h20⟩
def stI (l v m : UInt8) : InsD := ⟨2,0,l,false,v,false,0,0,m,0⟩
def ldI (d l m : UInt8) : InsD := ⟨1,d,l,false,0,false,0,0,m,0⟩
def twoP (a b : List InsD) : Prg := ⟨[116],[[120],[121]],[0,0],[a,b],1,.mk 0 0 0 0 []⟩
def sbP : Prg := twoP [stI 0 1 0,ldI 0 1 0] [stI 1 1 0,ldI 0 0 0]
def mpP : Prg := twoP [stI 0 1 0,stI 1 1 0] [ldI 1 1 0,ldI 0 0 0]
def raP : Prg := twoP [stI 0 1 0,stI 1 1 2] [ldI 1 1 1,ldI 0 0 0]
def coP : Prg := twoP [stI 0 1 0,ldI 0 0 0] []
theorem sb_q : candQB sbP 5 [0,1] 50 = true := by kernel_rfl
end Go.Proofs.YtkpcgpmimejimaaGreatDoor
namespace Go.Proofs.YtkpcgpmimejimaaGreatDoor
open Go.Vc Go.RowKit Go.Sei
def foundL (l : List ExD) (a b : UInt8) : List ExD := l.filter fun x => decide (x.regs 0 = a) && decide (x.regs 8 = b)
def saysL (x : ExD) (want : List UInt8) : Bool := (List.range want.length).all fun i => decide (brokM (i + 1) x = (want.getD i 0).toNat) && (holdsM (i + 1) x == decide (want.getD i 0 = 0))
def exvB (x : ExD) : Bool := decide (x.ev.length ≤ 19) && (wrdB x.po && (wrdB x.rf && (wrdB x.co && (wrdB x.dt && (wrdB x.ct && wrdB x.rm)))))
abbrev sbF : List ExD := foundL (candsP sbP [0,1]) 0 0
abbrev mpF : List ExD := foundL (candsP mpP [0,1]) 0 0
abbrev raF : List ExD := foundL (candsP raP [0,1]) 0 0
abbrev coF : List ExD := foundL (candsP coP [0,1]) 0 0
def sayOne (l : List ExD) (i n : Nat) (want : List UInt8) : Bool := decide (l.length = n) && (l.all exvB && saysL (l.getD i (ex0 0)) want)
theorem mp_q : candQB mpP 5 [0,1] 50 = true := by kernel_rfl
theorem ra_q : candQB raP 5 [0,1] 50 = true := by kernel_rfl
theorem co_q : candQB coP 5 [0,1] 50 = true := by kernel_rfl
theorem sb_says : sayOne sbF 0 1 [0,3,0,0,0,0] = true := by kernel_rfl
theorem mp_says : sayOne mpF 1 2 [0,3,3,0,0,0] = true := by kernel_rfl
theorem ra_says : sayOne raF 1 2 [0,3,3,0,3,0] = true := by kernel_rfl
theorem co_says : sayOne coF 0 1 [1,1,1,1,1,1] = true := by kernel_rfl
theorem mp_reg : (mpF.getD 1 (ex0 0)).regs 9 = 1 := by kernel_rfl
theorem ra_reg : (raF.getD 1 (ex0 0)).regs 9 = 1 := by kernel_rfl
end Go.Proofs.YtkpcgpmimejimaaGreatDoor
namespace Go.Proofs.YtkpcgpmimejimaaGreatDoor
open Go.Vc Go.RowKit Go.Sei
structure ExV (w : World) (x : ExD) (q : Option Addr) : Prop where
 ev : SlR evE w q x.ev
 n : x.ev.length ≤ 19
 po : WrdR x.po.to
 rf : WrdR x.rf.to
 co : WrdR x.co.to
 dt : WrdR x.dt.to
 ct : WrdR x.ct.to
 rm : WrdR x.rm.to
theorem ExV.below {w w2 : World} {x : ExD} {q : Option Addr} (h : ExV w x q) (hb : Below w.heap.size w w2) : ExV w2 x q := ⟨h.ev.below hb,h.n,h.po,h.rf,h.co,h.dt,h.ct,h.rm⟩
theorem ev_enc {w : World} {q : Option Addr} {l : List Ev} (h : SlR evE w q l) {i : Nat} (hi : i < l.length) : ∃ b o,q = some ⟨b,o,none⟩ ∧ b < w.heap.size ∧ Cells w ⟨b,o + i * 7,none⟩ (evE.enc (l.getD i ev0)) := by
 obtain ⟨b,o,hq,hb,hat⟩ := h.at hi
 refine ⟨b,o,hq,hb,?_⟩
 rw [List.getD_eq_getElem?_getD,List.getElem?_eq_getElem hi]
 exact hat i hi
theorem tU64 : TyEq Tryz.prog 24 false 1 1 (fun cs => ∃ x,cs = [.int .u64 x]) := .int Tryz.underlying24 (fun w => Tryz.isAgg24 w) (known_of (by kernel_rfl) (by kernel_rfl)).1 (by kernel_rfl)
theorem tI64 : TyEq Tryz.prog 3 false 1 1 (fun cs => ∃ x,cs = [.int .i64 x]) := .int Tryz.underlying3 (fun w => Tryz.isAgg3 w) (known_of (by kernel_rfl) (by kernel_rfl)).1 (by kernel_rfl)
theorem tRows : ∃ G,TyEq Tryz.prog 25 true 48 2 G ∧ ∀ f : Nat → Nat,G (rowsC f) := by
 refine ⟨_,.array (m := 48) (by decide) Tryz.underlying25 (fun w => Tryz.isAgg25 w) (known_of (by kernel_rfl) (by kernel_rfl)).1 (by kernel_rfl) tU64,fun f i hi => ?_⟩
 refine ⟨(f i : Nat),?_⟩
 unfold chunk
 have h := rows_at f hi
 rw [Nat.mul_one]
 have hl : i < (rowsC f).length := by rw [rows_len]; exact hi
 rw [← List.getElem_cons_drop hl,List.take_succ_cons,List.take_zero]
 rw [List.getElem?_eq_getElem hl] at h
 rw [Option.some.inj h]; rfl
theorem tRelE : ∃ G,TyEq Tryz.prog 27 true 49 3 G ∧ ∀ r : RelD,G (relC r) := by
 obtain ⟨G,h1,h2⟩ := tRows
 refine ⟨_,.struct (uf Tryz.underlying27).1 (by kernel_rfl) (fun w => Tryz.isAgg27 w) (known_of (by kernel_rfl) (by kernel_rfl)).1 (by kernel_rfl)
  (by rw [(uf Tryz.underlying27).2]; exact .cons (by decide) rfl (tI64.up 1) (.cons (by decide) rfl h1 .nil)),fun r => ?_⟩
 exact ⟨⟨_,rfl⟩,by have := h2 r.to; have e : ((relC r).drop 1).take 48 = rowsC r.to := List.take_of_length_le (by rw [show (relC r).drop 1 = rowsC r.to from rfl,rows_len]; decide); rw [e]; exact this,trivial⟩
theorem relEq_iff {a b : RelD} : relC a = relC b ↔ relEq a b = true := by
 unfold relEq
 rw [Bool.and_eq_true,decide_eq_true_eq,List.all_eq_true]
 constructor
 ·intro h
  have h1 : i64 a.n = i64 b.n := List.head_eq_of_cons_eq h
  have h2 : rowsC a.to = rowsC b.to := List.tail_eq_of_cons_eq h
  refine ⟨by injection h1,fun i hi => decide_eq_true ?_⟩
  have hi := List.mem_range.1 hi
  have h3 := rows_at a.to hi
  rw [h2,rows_at b.to hi] at h3
  have h4 := Option.some.inj h3
  unfold s64 at h4
  injection h4 with _ h5
  omega
 ·rintro ⟨h1,h2⟩
  unfold relC rowsC
  rw [h1]
  congr 1
  refine List.map_congr_left fun i hi => ?_
  rw [of_decide_eq_true (h2 i hi)]
theorem eql_rel (x y : Operand) (a b : RelD) (w : World) : (do eqGuard .eql 27 x y (.agg (relC a).toArray) (.agg (relC b).toArray); binOp .eql 27 (.agg (relC a).toArray) (.agg (relC b).toArray)).run Tryz.prog w = .ok (.bool (relEq a b)) w := by
 obtain ⟨G,h1,h2⟩ := tRelE
 have := eql_ty h1 9997 rfl (by kernel_rfl) (relC_len a) (relC_len b) (h2 a) (h2 b) x y w
 rw [this,cdec_iff relEq_iff,Bool.decide_eq_true]
theorem tEvE : ∃ G,TyEq Tryz.prog 52 true 7 2 G ∧ ∀ e : Ev,G (evE.enc e) := by
 refine ⟨_,.struct (uf Tryz.underlying52).1 (by kernel_rfl) (fun w => Tryz.isAgg52 w) (known_of (by kernel_rfl) (by kernel_rfl)).1 (by kernel_rfl)
  (by rw [(uf Tryz.underlying52).2]; exact .cons (by decide) rfl tI64 (.cons (by decide) rfl tU8 (.cons (by decide) rfl tU8 (.cons (by decide) rfl tU8 (.cons (by decide) rfl tU8 (.cons (by decide) rfl tU8 (.cons (by decide) rfl tU8 .nil))))))),fun e => ?_⟩
 exact ⟨⟨_,rfl⟩,⟨_,rfl⟩,⟨_,rfl⟩,⟨_,rfl⟩,⟨_,rfl⟩,⟨_,rfl⟩,⟨_,rfl⟩,trivial⟩
theorem evEnc_iff {a b : Ev} : evE.enc a = evE.enc b ↔ a = b := by
 constructor
 ·intro h
  obtain ⟨a1,a2,a3,a4,a5,a6,a7⟩ := a
  obtain ⟨b1,b2,b3,b4,b5,b6,b7⟩ := b
  have h : [i64 a1,u8 a2,u8 a3,u8 a4,u8 a5,u8 a6,u8 a7] = [i64 b1,u8 b2,u8 b3,u8 b4,u8 b5,u8 b6,u8 b7] := h
  simp only [List.cons.injEq,and_true,u8,Value.int.injEq,true_and,u8_eq] at h
  obtain ⟨h1,rfl,rfl,rfl,rfl,rfl,rfl⟩ := h
  have h1 : a1 = b1 := by injection h1
  rw [h1]
 ·rintro rfl; rfl
theorem neq_ev (x y : Operand) (a b : Ev) (w : World) : (do eqGuard .neq 52 x y (.agg (evE.enc a).toArray) (.agg (evE.enc b).toArray); binOp .neq 52 (.agg (evE.enc a).toArray) (.agg (evE.enc b).toArray)).run Tryz.prog w = .ok (.bool (!decide (a = b))) w := by
 obtain ⟨G,h1,h2⟩ := tEvE
 have := neq_ty h1 9998 rfl (by kernel_rfl) (a := evE.enc a) (b := evE.enc b) rfl rfl (h2 a) (h2 b) x y w
 rw [this,cdec_iff evEnc_iff]
end Go.Proofs.YtkpcgpmimejimaaGreatDoor
namespace Go.Proofs.YtkpcgpmimejimaaGreatDoor
open Go.Vc Go.RowKit Go.Sei
theorem inits_drop : ∀ (ev : List Ev) (k : Nat),(∀ j,j < k → (ev.getD j ev0).th = -1) → k ≤ ev.length → initsN ev = k + initsN (ev.drop k)
 | ev,0,_,_ => by rw [List.drop_zero,Nat.zero_add]
 | [],k + 1,_,h => by simp at h
 | e :: ev,k + 1,hj,h => by
  have h0 : e.th = -1 := hj 0 (by omega)
  have ih := inits_drop ev k (fun j hjk => hj (j + 1) (by omega)) (by simpa using h)
  unfold initsN at ih ⊢
  rw [List.takeWhile_cons,if_pos (decide_eq_true h0),List.length_cons,ih,List.drop_succ_cons]
  omega
section
variable {q : Option Addr} {c : Nat} {ev : List Ev} {w : World}
theorem initials_c (hl : SlR evE w q ev) (hn : ev.length ≤ 1000) : Calls Tryz.prog 33 #[.slice q ev.length c] w fun e w' => e = .returned (i64 (initsN ev : Nat)) ∧ Below w.heap.size w w' := by
 refine calls_of_E (S := sg 19) (sgOk _) (args := [.slice q ev.length c]) Tryz.func33 rfl rfl (Nat.le_of_ble_eq_true rfl) rfl ?_
 refine ⟨Nat,fun k => ⟨[(0,.slice q ev.length c),(5,.slice q ev.length c),(6,i64 ev.length),(7,i64 (k : Nat))],[]⟩,fun k X => k ≤ ev.length ∧ (∀ j,j < k → (ev.getD j ev0).th = -1) ∧ Below w.heap.size w X,fun k => ev.length - k,0,⟨.cons rfl (.cons rfl (.cons rfl (.cons rfl .nil))),rfl⟩,⟨Nat.zero_le _,fun j h => by omega,Below.refl _ _⟩,?_⟩
 rintro k X ⟨hk,hj,hbX⟩
 dsimp only
 have hXs := hbX.size
 refine And.intro (fun hc => ?_) (fun hc => ?_)
 ·have hc : (k : Int) < (ev.length : Int) := of_decide_eq_true hc
  have hkl : k < ev.length := by omega
  obtain ⟨b,o,rfl,hb,hat⟩ := ev_enc (hl.below hbX) hkl
  obtain ⟨e,he⟩ : ∃ e,e = ev.getD k ev0 := ⟨_,rfl⟩
  rw [← he] at hat
  refine ⟨k,rfl,hkl,?_⟩
  refine ⟨evE.enc e,rfl,hat,hb,?_⟩
  refine store_new (X := X) (v := .agg (evE.enc e).toArray) (ttOk.get 52 _ rfl) rfl rfl (List.all_eq_true.2 fun u hu => evE.one e u hu) fun Y hbY fY sY => ?_
  have fY : Y.heap[X.heap.size]? = some (.cells (evE.enc e).toArray 52 (0,0)) := fY
  refine ⟨i64 e.th,cells_at (cells_block fY) (i := 0) rfl,?_⟩
  have hbY2 := hbX.trans (hbY.mono hXs)
  refine And.intro (fun h => ?_) (fun h => ?_)
  ·have h : (!decide (e.th = -1)) = true := h
   have h : ¬ e.th = -1 := by simpa using h
   refine ⟨?_,hbY2⟩
   have h2 := inits_drop ev k hj hk
   have h3 : initsN (ev.drop k) = 0 := by
    unfold initsN
    have h4 : ev[k] = e := by rw [he,List.getD_eq_getElem?_getD,List.getElem?_eq_getElem hkl]; rfl
    rw [← List.getElem_cons_drop hkl,List.takeWhile_cons,h4,if_neg (by simpa using h)]; rfl
   rw [h3] at h2
   exact ri (by omega)
  ·have h : (!decide (e.th = -1)) = false := h
   have h : e.th = -1 := by simpa using h
   refine ⟨((k + 1 : Nat) : Int),(wrap_i64 (by omega)).trans (by omega),?_⟩
   refine ⟨k + 1,⟨.cons rfl (.cons rfl (.cons rfl (.cons rfl .nil))),rfl⟩,⟨hkl,fun j hjk => ?_,hbY2⟩,by show ev.length - (k + 1) < ev.length - k; omega⟩
   by_cases e2 : j = k
   ·rw [e2,← he]; exact h
   ·exact hj j (by omega)
 ·have hc : ¬ (k : Int) < (ev.length : Int) := of_decide_eq_false hc
  obtain rfl : k = ev.length := by omega
  refine ⟨?_,hbX⟩
  have h2 := inits_drop ev ev.length hj (Nat.le_refl _)
  rw [List.drop_length] at h2
  exact ri (by rw [h2]; show ((ev.length : Nat) : Int) = ((ev.length + 0 : Nat) : Int); rfl)
theorem build_ev {i : Nat} {v : UInt8} : fillL (placeS [(0,1,false),(1,1,false),(2,1,false),(3,1,false),(4,1,false),(5,1,false),(6,1,false)]) (evE.enc ev0) [(0,i64 (-1)),(1,u8 2),(2,u8 (UInt8.ofNat i)),(3,u8 v)] = some (evE.enc ⟨-1,2,UInt8.ofNat i,v,0,0,0⟩) := rfl
theorem eventsRight_c {locs : Nat} (hl : SlR evE w q ev) (hn : ev.length ≤ 1000) (hlo : locs ≤ 1000) : Calls Tryz.prog 34 #[.slice q ev.length c,i64 locs] w fun e w' => e = .returned (.bool (evsRight ev locs)) ∧ Below w.heap.size w w' := by
 refine calls_of_E (S := sg 69) (sgOk _) (args := [.slice q ev.length c,i64 locs]) Tryz.func34 rfl rfl (Nat.le_of_ble_eq_true rfl) rfl ?_
 refine ⟨Nat × Int × Nat,fun s => ⟨[(1,i64 locs),(5,i64 s.2.1),(6,i64 (s.2.2 : Nat)),(9,.slice q ev.length c),(10,i64 ev.length),(11,i64 (s.1 : Nat))],[]⟩,fun s X => s.1 ≤ ev.length ∧ s.2.2 ≤ s.1 ∧ evGo locs s.1 (ev.drop s.1) s.2.1 s.2.2 = evsRight ev locs ∧ Below w.heap.size w X,fun s => ev.length - s.1,(0,0,0),⟨.cons rfl (.cons rfl (.cons rfl (.cons rfl (.cons rfl (.cons rfl .nil))))),rfl⟩,⟨Nat.zero_le _,Nat.le_refl _,rfl,Below.refl _ _⟩,?_⟩
 rintro ⟨k,t,m⟩ X ⟨hk,hm,hgo,hbX⟩
 dsimp only at hk hm hgo ⊢
 have hXs := hbX.size
 refine And.intro (fun hc => ?_) (fun hc => ?_)
 ·have hc : (k : Int) < (ev.length : Int) := of_decide_eq_true hc
  have hkl : k < ev.length := by omega
  obtain ⟨b,o,rfl,hb,hat⟩ := ev_enc (hl.below hbX) hkl
  obtain ⟨e,he⟩ : ∃ e,e = ev.getD k ev0 := ⟨_,rfl⟩
  rw [← he] at hat
  have hdr : ev.drop k = e :: ev.drop (k + 1) := by
   rw [← List.getElem_cons_drop hkl,he,List.getD_eq_getElem?_getD,List.getElem?_eq_getElem hkl]; rfl
  rw [hdr] at hgo
  unfold evGo at hgo
  refine ⟨k,rfl,hkl,?_⟩
  refine ⟨evE.enc e,rfl,hat,hb,?_⟩
  refine store_new (X := X) (v := .agg (evE.enc e).toArray) (ttOk.get 52 _ rfl) rfl rfl (List.all_eq_true.2 fun u hu => evE.one e u hu) fun Y hbY fY sY => ?_
  have fY : Y.heap[X.heap.size]? = some (.cells (evE.enc e).toArray 52 (0,0)) := fY
  have hbY2 := hbX.trans (hbY.mono hXs)
  have ld : ∀ {i : Nat} {v : Value},(evE.enc e)[i]? = some v → Y.cell? ⟨X.heap.size,0 + i,none⟩ = some v := fun h => cells_at (cells_block fY) h
  have no : evsRight ev locs = false → (Ending.returned (.bool false) = Ending.returned (.bool (evsRight ev locs)) ∧ Below w.heap.size w Y) := fun h => ⟨rb h.symm,hbY2⟩
  refine And.intro (fun h => ?_) (fun h => ?_)
  ·have h : (k : Int) < (locs : Int) := of_decide_eq_true h
   rw [if_pos (by omega : k < locs)] at hgo
   refine ⟨evE.enc e,rfl,cells_block fY,hlt fY,?_⟩
   refine ⟨_,w8N k,?_⟩
   refine ⟨u8 e.v,ld (i := 3) rfl,?_⟩
   refine ⟨evE.enc ⟨-1,2,UInt8.ofNat k,e.v,0,0,0⟩,build_ev,?_⟩
   refine ⟨_,fun w => neq_ev _ _ e _ w,?_⟩
   refine And.intro (fun h2 => ?_) (fun h2 => ?_)
   ·have h2 : ¬ e = ⟨-1,2,UInt8.ofNat k,e.v,0,0,0⟩ := by simpa using h2
    rw [if_neg h2] at hgo
    exact no hgo.symm
   ·have h2 : e = ⟨-1,2,UInt8.ofNat k,e.v,0,0,0⟩ := by simpa using h2
    rw [if_pos h2] at hgo
    refine ⟨((k + 1 : Nat) : Int),(wrap_i64 (by omega)).trans (by omega),?_⟩
    exact ⟨(k + 1,t,m),⟨.cons rfl (.cons rfl (.cons rfl (.cons rfl (.cons rfl (.cons rfl .nil))))),rfl⟩,⟨hkl,by show m ≤ k + 1; omega,hgo,hbY2⟩,by show ev.length - (k + 1) < ev.length - k; omega⟩
  ·have h : ¬ (k : Int) < (locs : Int) := of_decide_eq_false h
   rw [if_neg (by omega : ¬ k < locs)] at hgo
   refine ⟨i64 e.th,ld (i := 0) rfl,?_⟩
   refine And.intro (fun h1 => ?_) (fun h1 => ?_)
   ·have h1 : e.th < t := of_decide_eq_true h1
    refine brT ?_
    rw [if_pos (.inl h1)] at hgo
    exact no hgo.symm
   have h1 : ¬ e.th < t := of_decide_eq_false h1
   refine ⟨i64 e.th,ld (i := 0) rfl,?_⟩
   refine And.intro (fun h2 => ?_) (fun h2 => ?_)
   ·have h2 : 4 ≤ e.th := of_decide_eq_true h2
    rw [if_pos (.inr h2)] at hgo
    exact no hgo.symm
   have h2 : ¬ 4 ≤ e.th := of_decide_eq_false h2
   rw [if_neg (by rintro (h | h); exact h1 h; exact h2 h)] at hgo
   refine ⟨i64 e.th,ld (i := 0) rfl,?_⟩
   refine And.intro (fun h9 => ?_) (fun h9 => ?_)
   ·have h9 : t < e.th := of_decide_eq_true h9
    dsimp only at hgo
    rw [if_pos h9,if_pos h9] at hgo
    refine ⟨i64 e.th,ld (i := 0) rfl,?_⟩
    refine ⟨u8 e.p,ld (i := 6) rfl,?_⟩
    refine ⟨(e.p.toNat : Int),wrap_u8_i64 _,?_⟩
    refine And.intro (fun h3 => ?_) (fun h3 => ?_)
    ·have h3 : ¬ e.p.toNat = 0 := by
      have h3 : (!decide ((e.p.toNat : Int) = (0 : Nat))) = true := h3
      simpa using h3
     rw [if_neg h3] at hgo
     exact no hgo.symm
    have h3 : e.p.toNat = 0 := by
     have h3 : (!decide ((e.p.toNat : Int) = (0 : Nat))) = false := h3
     simpa using h3
    rw [if_pos h3] at hgo
    refine ⟨((0 + 1 : Nat) : Int),(wrap_i64 (by omega)).trans (by omega),?_⟩
    refine ⟨u8 e.k,ld (i := 1) rfl,?_⟩
    refine And.intro (fun h4 => ?_) (fun h4 => ?_)
    ·refine brE h4 ?_
     have h4 : e.k = 1 := u8_eq.1 (of_decide_eq_true h4)
     rw [if_pos (.inl h4)] at hgo
     refine ⟨u8 e.l,ld (i := 2) rfl,?_⟩
     refine ⟨(e.l.toNat : Int),wrap_u8_i64 _,?_⟩
     refine And.intro (fun h5 => ?_) (fun h5 => ?_)
     ·have h5 : (locs : Int) ≤ (e.l.toNat : Int) := of_decide_eq_true h5
      rw [if_neg (by omega)] at hgo
      exact no hgo.symm
     ·have h5 : ¬ (locs : Int) ≤ (e.l.toNat : Int) := of_decide_eq_false h5
      rw [if_pos (by omega)] at hgo
      refine ⟨((k + 1 : Nat) : Int),(wrap_i64 (by omega)).trans (by omega),?_⟩
      exact ⟨(k + 1,e.th,0 + 1),⟨.cons rfl (.cons rfl (.cons rfl (.cons rfl (.cons rfl (.cons rfl .nil))))),rfl⟩,⟨hkl,by show 0 + 1 ≤ k + 1; omega,hgo,hbY2⟩,by show ev.length - (k + 1) < ev.length - k; omega⟩
    have h4 : ¬ e.k = 1 := fun e2 => (of_decide_eq_false h4) (by rw [e2]; rfl)
    refine And.intro (fun h5 => ?_) (fun h5 => ?_)
    ·have h5 : e.k = 2 := u8_eq.1 (of_decide_eq_true h5)
     rw [if_pos (.inr h5)] at hgo
     refine ⟨u8 e.l,ld (i := 2) rfl,?_⟩
     refine ⟨(e.l.toNat : Int),wrap_u8_i64 _,?_⟩
     refine And.intro (fun h5 => ?_) (fun h5 => ?_)
     ·have h5 : (locs : Int) ≤ (e.l.toNat : Int) := of_decide_eq_true h5
      rw [if_neg (by omega)] at hgo
      exact no hgo.symm
     ·have h5 : ¬ (locs : Int) ≤ (e.l.toNat : Int) := of_decide_eq_false h5
      rw [if_pos (by omega)] at hgo
      refine ⟨((k + 1 : Nat) : Int),(wrap_i64 (by omega)).trans (by omega),?_⟩
      exact ⟨(k + 1,e.th,0 + 1),⟨.cons rfl (.cons rfl (.cons rfl (.cons rfl (.cons rfl (.cons rfl .nil))))),rfl⟩,⟨hkl,by show 0 + 1 ≤ k + 1; omega,hgo,hbY2⟩,by show ev.length - (k + 1) < ev.length - k; omega⟩
    have h5 : ¬ e.k = 2 := fun e2 => (of_decide_eq_false h5) (by rw [e2]; rfl)
    rw [if_neg (by rintro (h | h); exact h4 h; exact h5 h)] at hgo
    refine And.intro (fun h6 => ?_) (fun h6 => ?_)
    ·have h6 : e.k = 3 := u8_eq.1 (of_decide_eq_true h6)
     rw [if_pos h6] at hgo
     refine ⟨u8 e.l,ld (i := 2) rfl,?_⟩
     refine And.intro (fun h7 => ?_) (fun h7 => ?_)
     ·have h7 : ¬ e.l = 0 := by
       have h7 : (!decide ((e.l.toNat : Int) = 0)) = true := h7
       intro e2
       rw [e2] at h7
       cases h7
      refine brT ?_
      rw [if_neg fun h => h7 h.1] at hgo
      exact no hgo.symm
     ·have h7 : e.l = 0 := by
       have h7 : (!decide ((e.l.toNat : Int) = ((0 : UInt8).toNat : Int))) = false := h7
       exact u8_eq.1 (by simpa using h7)
      refine ⟨u8 e.v,ld (i := 3) rfl,?_⟩
      refine And.intro (fun h8 => ?_) (fun h8 => ?_)
      ·have h8 : ¬ e.v = 0 := by
        have h8 : (!decide ((e.v.toNat : Int) = 0)) = true := h8
        intro e2
        rw [e2] at h8
        cases h8
       rw [if_neg fun h => h8 h.2] at hgo
       exact no hgo.symm
      ·have h8 : e.v = 0 := by
        have h8 : (!decide ((e.v.toNat : Int) = ((0 : UInt8).toNat : Int))) = false := h8
        exact u8_eq.1 (by simpa using h8)
       rw [if_pos ⟨h7,h8⟩] at hgo
       refine ⟨((k + 1 : Nat) : Int),(wrap_i64 (by omega)).trans (by omega),?_⟩
       exact ⟨(k + 1,e.th,0 + 1),⟨.cons rfl (.cons rfl (.cons rfl (.cons rfl (.cons rfl (.cons rfl .nil))))),rfl⟩,⟨hkl,by show 0 + 1 ≤ k + 1; omega,hgo,hbY2⟩,by show ev.length - (k + 1) < ev.length - k; omega⟩
    ·have h6 : ¬ e.k = 3 := fun e2 => (of_decide_eq_false h6) (by rw [e2]; rfl)
     rw [if_neg h6] at hgo
     exact no hgo.symm
   ·have h9 : ¬ t < e.th := of_decide_eq_false h9
    dsimp only at hgo
    rw [if_neg h9,if_neg h9] at hgo
    refine ⟨u8 e.p,ld (i := 6) rfl,?_⟩
    refine ⟨(e.p.toNat : Int),wrap_u8_i64 _,?_⟩
    refine And.intro (fun h3 => ?_) (fun h3 => ?_)
    ·have h3 : ¬ e.p.toNat = m := by
      have h3 : (!decide ((e.p.toNat : Int) = (m : Nat))) = true := h3
      intro e2
      rw [e2] at h3
      simp at h3
     rw [if_neg h3] at hgo
     exact no hgo.symm
    have h3 : e.p.toNat = m := by
     have h3 : (!decide ((e.p.toNat : Int) = (m : Nat))) = false := h3
     have h3 : (e.p.toNat : Int) = (m : Nat) := by simpa using h3
     omega
    rw [if_pos h3] at hgo
    refine ⟨((m + 1 : Nat) : Int),(wrap_i64 (by omega)).trans (by omega),?_⟩
    refine ⟨u8 e.k,ld (i := 1) rfl,?_⟩
    refine And.intro (fun h4 => ?_) (fun h4 => ?_)
    ·refine brE h4 ?_
     have h4 : e.k = 1 := u8_eq.1 (of_decide_eq_true h4)
     rw [if_pos (.inl h4)] at hgo
     refine ⟨u8 e.l,ld (i := 2) rfl,?_⟩
     refine ⟨(e.l.toNat : Int),wrap_u8_i64 _,?_⟩
     refine And.intro (fun h5 => ?_) (fun h5 => ?_)
     ·have h5 : (locs : Int) ≤ (e.l.toNat : Int) := of_decide_eq_true h5
      rw [if_neg (by omega)] at hgo
      exact no hgo.symm
     ·have h5 : ¬ (locs : Int) ≤ (e.l.toNat : Int) := of_decide_eq_false h5
      rw [if_pos (by omega)] at hgo
      refine ⟨((k + 1 : Nat) : Int),(wrap_i64 (by omega)).trans (by omega),?_⟩
      exact ⟨(k + 1,t,m + 1),⟨.cons rfl (.cons rfl (.cons rfl (.cons rfl (.cons rfl (.cons rfl .nil))))),rfl⟩,⟨hkl,by show m + 1 ≤ k + 1; omega,hgo,hbY2⟩,by show ev.length - (k + 1) < ev.length - k; omega⟩
    have h4 : ¬ e.k = 1 := fun e2 => (of_decide_eq_false h4) (by rw [e2]; rfl)
    refine And.intro (fun h5 => ?_) (fun h5 => ?_)
    ·have h5 : e.k = 2 := u8_eq.1 (of_decide_eq_true h5)
     rw [if_pos (.inr h5)] at hgo
     refine ⟨u8 e.l,ld (i := 2) rfl,?_⟩
     refine ⟨(e.l.toNat : Int),wrap_u8_i64 _,?_⟩
     refine And.intro (fun h5 => ?_) (fun h5 => ?_)
     ·have h5 : (locs : Int) ≤ (e.l.toNat : Int) := of_decide_eq_true h5
      rw [if_neg (by omega)] at hgo
      exact no hgo.symm
     ·have h5 : ¬ (locs : Int) ≤ (e.l.toNat : Int) := of_decide_eq_false h5
      rw [if_pos (by omega)] at hgo
      refine ⟨((k + 1 : Nat) : Int),(wrap_i64 (by omega)).trans (by omega),?_⟩
      exact ⟨(k + 1,t,m + 1),⟨.cons rfl (.cons rfl (.cons rfl (.cons rfl (.cons rfl (.cons rfl .nil))))),rfl⟩,⟨hkl,by show m + 1 ≤ k + 1; omega,hgo,hbY2⟩,by show ev.length - (k + 1) < ev.length - k; omega⟩
    have h5 : ¬ e.k = 2 := fun e2 => (of_decide_eq_false h5) (by rw [e2]; rfl)
    rw [if_neg (by rintro (h | h); exact h4 h; exact h5 h)] at hgo
    refine And.intro (fun h6 => ?_) (fun h6 => ?_)
    ·have h6 : e.k = 3 := u8_eq.1 (of_decide_eq_true h6)
     rw [if_pos h6] at hgo
     refine ⟨u8 e.l,ld (i := 2) rfl,?_⟩
     refine And.intro (fun h7 => ?_) (fun h7 => ?_)
     ·have h7 : ¬ e.l = 0 := by
       have h7 : (!decide ((e.l.toNat : Int) = 0)) = true := h7
       intro e2
       rw [e2] at h7
       cases h7
      refine brT ?_
      rw [if_neg fun h => h7 h.1] at hgo
      exact no hgo.symm
     ·have h7 : e.l = 0 := by
       have h7 : (!decide ((e.l.toNat : Int) = ((0 : UInt8).toNat : Int))) = false := h7
       exact u8_eq.1 (by simpa using h7)
      refine ⟨u8 e.v,ld (i := 3) rfl,?_⟩
      refine And.intro (fun h8 => ?_) (fun h8 => ?_)
      ·have h8 : ¬ e.v = 0 := by
        have h8 : (!decide ((e.v.toNat : Int) = 0)) = true := h8
        intro e2
        rw [e2] at h8
        cases h8
       rw [if_neg fun h => h8 h.2] at hgo
       exact no hgo.symm
      ·have h8 : e.v = 0 := by
        have h8 : (!decide ((e.v.toNat : Int) = ((0 : UInt8).toNat : Int))) = false := h8
        exact u8_eq.1 (by simpa using h8)
       rw [if_pos ⟨h7,h8⟩] at hgo
       refine ⟨((k + 1 : Nat) : Int),(wrap_i64 (by omega)).trans (by omega),?_⟩
       exact ⟨(k + 1,t,m + 1),⟨.cons rfl (.cons rfl (.cons rfl (.cons rfl (.cons rfl (.cons rfl .nil))))),rfl⟩,⟨hkl,by show m + 1 ≤ k + 1; omega,hgo,hbY2⟩,by show ev.length - (k + 1) < ev.length - k; omega⟩
    ·have h6 : ¬ e.k = 3 := fun e2 => (of_decide_eq_false h6) (by rw [e2]; rfl)
     rw [if_neg h6] at hgo
     exact no hgo.symm
 ·have hc : ¬ (k : Int) < (ev.length : Int) := of_decide_eq_false hc
  obtain rfl : k = ev.length := by omega
  rw [List.drop_length] at hgo
  exact ⟨rb hgo,hbX⟩
end
end Go.Proofs.YtkpcgpmimejimaaGreatDoor
namespace Go.Sei
theorem all_false {p : Nat → Bool} {n k : Nat} (hk : k < n) (h : p k = false) : (List.range n).all p = false := by
 rw [List.all_eq_false]
 exact ⟨k,List.mem_range.2 hk,by rw [h]; decide⟩
theorem all_next {p : Nat → Bool} {k : Nat} (h : (List.range k).all p = true) (hp : p k = true) : (List.range (k + 1)).all p = true := by
 rw [List.range_succ,List.all_append,h]
 simp [hp]
theorem pow_bit {a j : Nat} : (2 ^ a).testBit j = decide (j = a) := by
 rw [Nat.testBit_two_pow]
 exact decide_eq_decide.2 ⟨fun e => e.symm,fun e => e.symm⟩
theorem put_bit {a : Nat} : ∀ (l : List Nat) (f : Nat → Nat) (b j : Nat),((l.foldl (fun f b => upd f b (f b ||| 2 ^ a)) f) b).testBit j = ((f b).testBit j || (decide (b ∈ l) && decide (j = a)))
 | [],f,b,j => by simp
 | x :: l,f,b,j => by
  rw [List.foldl_cons,put_bit l]
  by_cases hx : b = x
  ·subst hx
   rw [upd_same,Nat.testBit_or,pow_bit]
   by_cases hl : b ∈ l <;> by_cases hj : j = a <;> simp [hl,hj]
  ·rw [upd_ne _ _ hx]
   simp [hx]
theorem backF_bit (to : Nat → Nat) : ∀ (n b j : Nat),(backF to n b).testBit j = (decide (j < n) && decide (b ∈ els (to j)))
 | 0,b,j => by
  show (0 : Nat).testBit j = _
  simp
 | n + 1,b,j => by
  have ih := backF_bit to n b j
  unfold backF at ih ⊢
  rw [List.range_succ,List.foldl_append,List.foldl_cons,List.foldl_nil,put_bit,ih]
  by_cases hj : j = n
  ·subst hj
   simp
  ·by_cases h2 : j < n
   ·rw [decide_eq_true h2,decide_eq_true (by omega : j < n + 1),decide_eq_false hj]; simp
   ·rw [decide_eq_false h2,decide_eq_false (by omega : ¬ j < n + 1),decide_eq_false hj]; simp
theorem back_bit {r : RelD} (h : okR r = true) {b j : Nat} : ((backR r).to b).testBit j = (decide ((j : Int) < r.n) && decide (b ∈ els (r.to j))) := by
 have hn : 0 ≤ r.n := by
  unfold okR at h
  rw [Bool.and_eq_true,decide_eq_true_eq] at h
  exact h.1
 have e : backR r = ⟨r.n,backF r.to r.n.toNat⟩ := if_pos h
 rw [e]
 show (backF r.to r.n.toNat b).testBit j = _
 rw [backF_bit]
 congr 1
 exact decide_eq_decide.2 (by omega)
theorem ctz_mem {s : Nat} (h0 : s ≠ 0) (h : s < 2 ^ 64) : ctz s ∈ els s := by
 rw [(els_step h0 h).1]
 exact List.mem_cons_self
end Go.Sei
namespace Go.Proofs.YtkpcgpmimejimaaGreatDoor
open Go.Vc Go.RowKit Go.Sei
section
variable {b c : Nat} {x : ExD} {q : Option Addr} {w : World}
theorem evA_eq {k : Nat} : x.ev.getD k ev0 = evA x k := rfl
theorem rfRight_c (fx : ExH w b x q c) (hv : ExV w x q) (hn : x.rf.n = x.ev.length) (hok : okR x.rf = true) (hT : Tz64M w) : Calls Tryz.prog 36 #[At0 b] w fun e w' => e = .returned (.bool (rfRight x)) ∧ Below w.heap.size w w' := by
 refine calls_of_M (S := sg 72) (sgOk _) (args := [At0 b]) (.s .p (.c .p .p)) Tryz.func36 rfl rfl (Nat.le_of_ble_eq_true rfl) rfl ?_
 obtain ⟨from_,hfr⟩ : ∃ f,f = backR x.rf := ⟨_,rfl⟩
 have hn20 := hv.n
 refine ⟨Nat,fun F => ⟨[(0,At0 b),(3,At0 F)],[]⟩,fun F X => RelH X F from_ ∧ WrdR from_.to ∧ w.heap.size ≤ F ∧ Below w.heap.size w X,?_,?_⟩
 ·refine ⟨relC x.rf,relC_len _,?_,hlt fx,?_⟩
  ·have h := cells_sub (n := 50) (m := 49) (cells_block fx)
   obtain ⟨A,T,hA,hE⟩ := exA_rf x q c
   have e := hE x.rf
   have e2 : (exC x q c).drop 50 = relC x.rf ++ T := by
    show (exC { x with rf := x.rf } q c).drop 50 = _
    rw [e,← hA,List.drop_left]
   have e3 : ((exC x q c).toArray.toList.drop 50).take 49 = relC x.rf := by
    show ((exC x q c).drop 50).take 49 = _
    rw [e2,List.take_append_of_le_length (by rw [relC_len]; decide),List.take_of_length_le (by rw [relC_len]; decide)]
   rw [e3] at h
   exact h
  refine Calls.mono (Back_c hv.rf hT) ?_
  rintro e Y ⟨rfl,hbY,hwr⟩
  refine store_new (X := Y) (v := .agg (relC (backR x.rf)).toArray) (ttOk.get 27 _ rfl) (relC_len _) (by kernel_rfl) (relC_one _) fun Z hbZ fZ sZ => ?_
  rw [← hfr] at fZ hwr
  exact ⟨Y.heap.size,⟨.cons rfl (.cons rfl .nil),rfl⟩,fZ,hwr,hbY.size,hbY.trans (hbZ.mono hbY.size)⟩
 rintro F X ⟨fF,hwr,hF,hbX⟩
 have bits : ∀ i j,(from_.to i).testBit j = true → j < x.ev.length := fun i j h => by
  rw [hfr,back_bit hok,Bool.and_eq_true,decide_eq_true_eq,hn] at h
  omega
 refine ⟨_,cells_at (cells_block (block_below hbX fx)) (i := 0) rfl,?_⟩
 refine ⟨Nat,fun k => ⟨[(0,At0 b),(3,At0 F),(18,.slice q x.ev.length c),(19,i64 x.ev.length),(20,i64 (k : Nat))],[]⟩,fun k X => k ≤ x.ev.length ∧ (List.range k).all (fun i => rfOne x (from_.to i) (evA x i)) = true ∧ RelH X F from_ ∧ Below w.heap.size w X,fun k => x.ev.length - k,0,⟨.cons rfl (.cons rfl (.cons rfl (.cons rfl (.cons rfl .nil)))),rfl⟩,⟨Nat.zero_le _,rfl,fF,hbX⟩,?_⟩
 have hall : rfRight x = (List.range x.ev.length).all fun i => rfOne x (from_.to i) (evA x i) := by rw [hfr]; rfl
 clear fF hbX
 rintro k X ⟨hk,hgo,fF,hbX⟩
 dsimp only
 have hXs := hbX.size
 refine And.intro (fun hc => ?_) (fun hc => ?_)
 ·have hc : (k : Int) < (x.ev.length : Int) := of_decide_eq_true hc
  have hkl : k < x.ev.length := by omega
  obtain ⟨bq,oq,hqe,hb,hat⟩ := ev_enc (hv.ev.below hbX) hkl
  rw [evA_eq] at hat
  obtain ⟨e,he⟩ : ∃ e,e = evA x k := ⟨_,rfl⟩
  obtain ⟨s,hs⟩ : ∃ s,s = from_.to k := ⟨_,rfl⟩
  rw [← he] at hat
  have hs64 : s < 2 ^ 64 := by rw [hs]; exact hwr k (by omega)
  have eq0 : some (Value.slice q x.ev.length c) = some (Value.slice (some ⟨bq,oq,none⟩) x.ev.length c) := by rw [hqe]
  subst hqe
  refine ⟨k,rfl,hkl,?_⟩
  refine ⟨evE.enc e,rfl,hat,hb,?_⟩
  refine store_new (X := X) (v := .agg (evE.enc e).toArray) (ttOk.get 52 _ rfl) rfl rfl (List.all_eq_true.2 fun u hu => evE.one e u hu) fun Y hbY fY sY => ?_
  have fY : Y.heap[X.heap.size]? = some (.cells (evE.enc e).toArray 52 (0,0)) := fY
  have hbY2 := hbX.trans (hbY.mono hXs)
  have no : ∀ {Z : World},Below w.heap.size w Z → rfOne x s e = false → (Ending.returned (.bool false) = Ending.returned (.bool (rfRight x)) ∧ Below w.heap.size w Z) := fun {Z} hb h => ⟨rb (by
   rw [hall]
   symm
   exact all_false hkl (by rw [← hs,← he]; exact h)),hb⟩
  have yes : ∀ {Z : World},RelH Z F from_ → Below w.heap.size w Z → rfOne x s e = true → (k + 1 ≤ x.ev.length ∧ (List.range (k + 1)).all (fun i => rfOne x (from_.to i) (evA x i)) = true ∧ RelH Z F from_ ∧ Below w.heap.size w Z) := fun {Z} f hb h => ⟨hkl,all_next hgo (by rw [← hs,← he]; exact h),f,hb⟩
  refine ⟨k,rfl,by omega,?_⟩
  refine ⟨s64 s,by rw [hs]; exact rel_row (block_below hbY fF) (by omega),?_⟩
  refine ⟨u8 e.k,cells_at (cells_block fY) (i := 1) rfl,?_⟩
  refine And.intro (fun h => ?_) (fun h => ?_)
  ·have h : ¬ e.k = 1 := by
    have h : (!decide ((e.k.toNat : Int) = ((1 : UInt8).toNat : Int))) = true := h
    intro e2
    rw [e2] at h
    simp at h
   have hone : rfOne x s e = decide (s = 0) := if_neg h
   refine And.intro (fun h2 => ?_) (fun h2 => ?_)
   ·have h2 : ¬ s = 0 := by
     have h2 : (!decide ((s : Int) = 0)) = true := h2
     intro e2
     rw [e2] at h2
     cases h2
    exact no hbY2 (by rw [hone]; exact decide_eq_false h2)
   ·have h2 : s = 0 := by
     have h2 : (!decide ((s : Int) = 0)) = false := h2
     have h2 : (s : Int) = 0 := by simpa using h2
     omega
    refine ⟨((k + 1 : Nat) : Int),(wrap_i64 (by omega)).trans (by omega),?_⟩
    exact ⟨k + 1,⟨.cons rfl (.cons rfl (.cons rfl (.cons rfl (.cons rfl .nil)))),rfl⟩,yes (block_below hbY fF) hbY2 (by rw [hone]; exact decide_eq_true h2),by show x.ev.length - (k + 1) < x.ev.length - k; omega⟩
  have h : e.k = 1 := by
   have h : (!decide ((e.k.toNat : Int) = ((1 : UInt8).toNat : Int))) = false := h
   exact u8_eq.1 (by simpa using h)
  refine Calls.mono (First_c hs64 (hT.below hbY2)) ?_
  rintro e2 Z ⟨rfl,hbZ⟩
  have hYs := hbY2.size
  have hbZ2 := hbY2.trans (hbZ.mono hYs)
  have fZ := block_below hbZ fY
  have fFZ := block_below hbZ (block_below hbY fF)
  by_cases hs0 : s = 0
  ·have e1 : (els s).isEmpty = true := by rw [hs0]; rfl
   rw [e1]
   refine brT ?_
   refine brT ?_
   refine no hbZ2 ?_
   unfold rfOne
   rw [if_pos h,if_pos hs0]
  obtain ⟨hd,hem⟩ := head_els hs0 hs64
  rw [hd,hem]
  have hmem := ctz_mem hs0 hs64
  have hbit : s.testBit (ctz s) = true := (mem_els.1 hmem).2
  have hwl : ctz s < x.ev.length := bits k _ (by rw [← hs]; exact hbit)
  refine brF ?_
  refine ⟨by omega,((2 ^ ctz s : Nat) : Int),w64_one (e := ctz s) (by omega),?_⟩
  refine And.intro (fun h2 => ?_) (fun h2 => ?_)
  ·have h2 : ¬ s = 2 ^ ctz s := by
    have h2 : (!decide ((s : Int) = ((2 ^ ctz s : Nat) : Int))) = true := h2
    intro e2
    rw [← e2] at h2
    simp at h2
   refine no hbZ2 ?_
   unfold rfOne
   rw [if_pos h,if_neg hs0,if_neg h2]
  have h2 : s = 2 ^ ctz s := by
   have h2 : (!decide ((s : Int) = ((2 ^ ctz s : Nat) : Int))) = false := h2
   have h2 : (s : Int) = ((2 ^ ctz s : Nat) : Int) := by simpa using h2
   exact Int.ofNat.inj h2
  obtain ⟨t,ht⟩ : ∃ t,t = ctz s := ⟨_,rfl⟩
  rw [← ht] at hwl h2 ⊢
  obtain ⟨bq2,oq2,hqe2,hb2,hat2⟩ := ev_enc (hv.ev.below hbZ2) hwl
  rw [evA_eq] at hat2
  obtain ⟨f,hf⟩ : ∃ f,f = evA x t := ⟨_,rfl⟩
  rw [← hf] at hat2
  have hone : rfOne x s e = (decide (f.k = 2) && (decide (f.l = e.l) && decide (f.v = e.v))) := by
   unfold rfOne
   rw [if_pos h,if_neg hs0,← ht,if_pos h2,← hf]
  refine ⟨_,cells_at (cells_block (block_below hbZ2 fx)) (i := 0) rfl,?_⟩
  refine ⟨t,rfl,hwl,?_⟩
  refine ⟨evE.enc f,rfl,by
   simp only [Option.some.injEq,Addr.mk.injEq,and_true] at hqe2
   rw [hqe2.1,hqe2.2]; exact hat2,by
   simp only [Option.some.injEq,Addr.mk.injEq,and_true] at hqe2
   rw [hqe2.1]; exact hb2,?_⟩
  refine store_new (X := Z) (v := .agg (evE.enc f).toArray) (ttOk.get 52 _ rfl) rfl rfl (List.all_eq_true.2 fun u hu => evE.one f u hu) fun V hbV fV sV => ?_
  have fV : V.heap[Z.heap.size]? = some (.cells (evE.enc f).toArray 52 (0,0)) := fV
  have hbV2 := hbZ2.trans (hbV.mono hbZ2.size)
  have fe := block_below hbV fZ
  have fFV := block_below hbV fFZ
  have n8 : ∀ {a d : UInt8},(!decide ((a.toNat : Int) = (d.toNat : Int))) = true → ¬ a = d := fun {a d} h e2 => by
   rw [e2] at h
   simp at h
  have y8 : ∀ {a d : UInt8},(!decide ((a.toNat : Int) = (d.toNat : Int))) = false → a = d := fun {a d} h => u8_eq.1 (by simpa using h)
  refine ⟨u8 f.k,cells_at (cells_block fV) (i := 1) rfl,?_⟩
  refine And.intro (fun h3 => ?_) (fun h3 => ?_)
  ·have h3 : ¬ f.k = 2 := n8 (d := 2) h3
   refine brT ?_
   refine brT ?_
   exact no hbV2 (by rw [hone,decide_eq_false h3]; rfl)
  have h3 : f.k = 2 := y8 (d := 2) h3
  refine ⟨u8 f.l,cells_at (cells_block fV) (i := 2) rfl,?_⟩
  refine ⟨u8 e.l,cells_at (cells_block fe) (i := 2) rfl,?_⟩
  refine And.intro (fun h4 => ?_) (fun h4 => ?_)
  ·have h4 : ¬ f.l = e.l := n8 h4
   refine brT ?_
   exact no hbV2 (by rw [hone,decide_eq_false h4,Bool.false_and,Bool.and_false])
  have h4 : f.l = e.l := y8 h4
  refine ⟨u8 f.v,cells_at (cells_block fV) (i := 3) rfl,?_⟩
  refine ⟨u8 e.v,cells_at (cells_block fe) (i := 3) rfl,?_⟩
  refine And.intro (fun h5 => ?_) (fun h5 => ?_)
  ·have h5 : ¬ f.v = e.v := n8 h5
   exact no hbV2 (by rw [hone,decide_eq_false h5,Bool.and_false,Bool.and_false])
  have h5 : f.v = e.v := y8 h5
  refine ⟨((k + 1 : Nat) : Int),(wrap_i64 (by omega)).trans (by omega),?_⟩
  exact ⟨k + 1,⟨.cons rfl (.cons rfl (.cons rfl (.cons rfl (.cons rfl .nil)))),rfl⟩,yes fFV hbV2 (by rw [hone,decide_eq_true h3,decide_eq_true h4,decide_eq_true h5]; rfl),by show x.ev.length - (k + 1) < x.ev.length - k; omega⟩
 ·have hc : ¬ (k : Int) < (x.ev.length : Int) := of_decide_eq_false hc
  obtain rfl : k = x.ev.length := by omega
  exact ⟨rb (by rw [hall]; exact hgo.symm),hbX⟩
end
end Go.Proofs.YtkpcgpmimejimaaGreatDoor
namespace Go.Proofs.YtkpcgpmimejimaaGreatDoor
open Go.Vc Go.RowKit Go.Sei
theorem Len1_c {bx n : Nat} {w : World} {i : Nat} (f : w.heap[bx]? = some (.cells #[i64 (n : Nat)] 3 (0,0))) (hn : n ≤ 1000) : Calls Tryz.prog 94 #[i64 (i : Nat),At0 bx] w fun e w' => e = .returned (.bool true) ∧ w'.heap[bx]? = some (.cells #[i64 (n + 1 : Nat)] 3 (0,0)) ∧ w.grownBy w' (some bx) := by
 refine calls_of_E (S := sg 6) (sgOk _) (args := [i64 (i : Nat),At0 bx]) Tryz.func94 rfl rfl (Nat.le_of_ble_eq_true rfl) rfl ?_
 refine ⟨_,cells_at (cells_block f) (i := 0) rfl,?_⟩
 refine ⟨((n + 1 : Nat) : Int),(wrap_i64 (by omega)).trans (by omega),?_⟩
 exact store_one (ttOk.get 3 _ rfl) f (o := 0) (v := i64 (n + 1 : Nat)) rfl rfl (by show 0 < 1; decide) rfl fun w' f' g' s' => ⟨rfl,f',g'⟩
theorem elementsL_c {bs bx s : Nat} {w : World} (fs : w.heap[bs]? = some (.cells #[s64 s] 24 (0,0))) (fx : w.heap[bx]? = some (.cells #[i64 (0 : Nat)] 3 (0,0))) (hs : s < 2 ^ 64) (hT : Tz64M w) (hbx : 0 ≠ bx) :
  Calls Tryz.prog 97 #[.func (.func 94) #[] #[At0 bx],At0 bs] w fun e w' => (∃ v,e = .returned v) ∧ w'.heap[bx]? = some (.cells #[i64 (lenS s : Nat)] 3 (0,0)) ∧ w.grownBy w' (some bx) := by
 refine calls_of_E (S := sg 16) (sgOk _) (args := [.func (.func 94) #[] #[At0 bx],At0 bs]) Tryz.func97 rfl rfl (Nat.le_of_ble_eq_true rfl) rfl ?_
 refine ⟨_,cells_at (cells_block fs) (i := 0) rfl,?_⟩
 refine ⟨Nat × Nat,fun q => ⟨[(0,.func (.func 94) #[] #[At0 bx]),(3,s64 q.2)],[]⟩,fun q X => X.heap[bx]? = some (.cells #[i64 (q.1 : Nat)] 3 (0,0)) ∧ q.1 + lenS q.2 = lenS s ∧ q.2 < 2 ^ 64 ∧ w.grownBy X (some bx),fun q => q.2,(0,s),⟨.cons rfl (.cons rfl .nil),rfl⟩,⟨fx,Nat.zero_add _,hs,grown_refl _ _⟩,?_⟩
 rintro ⟨n,r⟩ X ⟨f,hn,hr,gX⟩
 dsimp only at f hn hr ⊢
 have hls := els_len s
 refine And.intro (fun hc => ?_) (fun hc => ?_)
 ·have hc : (!decide ((r : Int) = 0)) = true := hc
  have hc : ¬ (r : Int) = 0 := by simpa using hc
  have hr0 : r ≠ 0 := by omega
  obtain ⟨e1,e2,_,_⟩ := els_step hr0 hr
  have hl : lenS r = lenS (rest r) + 1 := by unfold lenS; rw [e1]; rfl
  have hTX : Tz64M X := tz64_same hT (gX.block _ (tz64_in hT) (by simpa using hbx))
  refine Calls.mono (tz64_c hTX hr0 hr) ?_
  rintro e _ ⟨rfl,rfl⟩
  have hn64 : n ≤ 1000 := by unfold lenS at hn; omega
  refine Calls.mono (Len1_c f hn64) ?_
  rintro e V ⟨rfl,fV,gV⟩
  refine brF ?_
  refine ⟨((r - 1 : Nat) : Int),(wrap_u64 (a := (r : Int) - 1) (by omega)).trans (by omega),?_⟩
  refine ⟨((rest r : Nat) : Int),w64_and (a := r) (b := r - 1) hr (by omega),?_⟩
  exact ⟨(n + 1,rest r),⟨.cons rfl (.cons rfl .nil),rfl⟩,⟨fV,by show n + 1 + lenS (rest r) = _; omega,by show rest r < _; omega,grown_trans gX gV⟩,e2⟩
 ·have hc : (!decide ((r : Int) = 0)) = false := hc
  have hc : (r : Int) = 0 := by simpa using hc
  obtain rfl : r = 0 := by omega
  have h0 : lenS 0 = 0 := rfl
  rw [h0,Nat.add_zero] at hn
  exact ⟨⟨_,rfl⟩,by rw [← hn]; exact f,gX⟩
theorem Len_c {s : Nat} {w : World} (hs : s < 2 ^ 64) (hT : Tz64M w) : Calls Tryz.prog 67 #[s64 s] w fun e w' => e = .returned (i64 (lenS s : Nat)) ∧ Below w.heap.size w w' := by
 refine calls_of_M (S := sg 11) (sgOk _) (args := [s64 s]) (.s .p (.c .p .p)) Tryz.func67 rfl rfl (Nat.le_of_ble_eq_true rfl) rfl ?_
 obtain ⟨L,hL⟩ : ∃ L,L = w.heap.size := ⟨_,rfl⟩
 refine ⟨Unit,fun _ => ⟨[(0,s64 s),(3,At0 L)],[]⟩,fun _ Y => Y.heap[L]? = some (.cells #[i64 (0 : Nat)] 3 (0,0)) ∧ Y.heap.size = L + 1 ∧ Below w.heap.size w Y,?_,?_⟩
 ·refine store_new (X := w) (v := i64 0) (ttOk.get 3 _ rfl) rfl rfl rfl fun Y hbY fY sY => ?_
  have fY : Y.heap[w.heap.size]? = some (.cells #[i64 (0 : Nat)] 3 (0,0)) := fY
  exact ⟨(),⟨.cons rfl (.cons (by rw [hL]; rfl) .nil),rfl⟩,by rw [hL]; exact fY,by rw [hL]; exact sY,hbY⟩
 rintro _ Y ⟨fY,sY,hbY⟩
 refine Calls.mono elements_c ?_
 rintro e _ ⟨rfl,rfl⟩
 have hb2 : Below Y.heap.size Y (Y.alloc (.cells #[s64 s] 24)) := (Below.refl _ _).alloc (Nat.le_refl _) _
 have htl := tz64_in hT
 refine Calls.mono (elementsL_c (hnew Y _) (block_below hb2 fY) hs ((hT.below hbY).below hb2) (by omega)) ?_
 rintro e Z ⟨⟨v,rfl⟩,fZ,gZ⟩
 refine ⟨_,cells_at (cells_block fZ) (i := 0) rfl,rfl,?_⟩
 exact (hbY.trans (hb2.mono hbY.size)).trans (below_grown gZ (by have := hbY.size; have := hb2.size; omega) (by omega))
def cmpI (x y : Nat) : Int := if x < y then -1 else if y < x then 1 else 0
theorem nanI_c {x : Nat} {w : World} : Calls Tryz.prog 93 #[i64 (x : Nat)] w fun e w' => e = .returned (.bool false) ∧ w = w' := by
 refine calls_of_E (S := sg 6) (sgOk _) (args := [i64 (x : Nat)]) Tryz.func93 rfl rfl (Nat.le_of_ble_eq_true rfl) rfl ?_
 exact ⟨rb (by simp),rfl⟩
theorem CompareI_c {x y : Nat} {w : World} : Calls Tryz.prog 66 #[i64 (x : Nat),i64 (y : Nat)] w fun e w' => e = .returned (i64 (cmpI x y)) ∧ w = w' := by
 refine calls_of_E (S := sg 20) (sgOk _) (args := [i64 (x : Nat),i64 (y : Nat)]) Tryz.func66 rfl rfl (Nat.le_of_ble_eq_true rfl) rfl ?_
 refine Calls.mono nanI_c ?_
 rintro e _ ⟨rfl,rfl⟩
 refine Calls.mono nanI_c ?_
 rintro e _ ⟨rfl,rfl⟩
 refine brF ?_
 refine brF ?_
 refine And.intro (fun h => ?_) (fun h => ?_)
 ·have h : (x : Int) < y := of_decide_eq_true h
  exact ⟨ri (by unfold cmpI; rw [if_pos (by omega)]),rfl⟩
 have h : ¬ (x : Int) < y := of_decide_eq_false h
 refine And.intro (fun h2 => ?_) (fun h2 => ?_)
 ·have h2 : (y : Int) < x := of_decide_eq_true h2
  exact ⟨ri (by unfold cmpI; rw [if_neg (by omega),if_pos (by omega)]),rfl⟩
 ·have h2 : ¬ (y : Int) < x := of_decide_eq_false h2
  exact ⟨ri (by unfold cmpI; rw [if_neg (by omega),if_neg (by omega)]),rfl⟩
section
variable {b c L : Nat} {x : ExD} {q : Option Addr} {w : World}
theorem co_row {X : World} (fx : ExH X b x q c) {i : Nat} (hi : i < 48) : X.cell? ⟨b,0 + 99 + 1 + i * 1,none⟩ = some (s64 (x.co.to i)) := by
 obtain ⟨A,T,hA,hE⟩ := exA_co x q c
 have hR : RelAt X b 99 34 A T x.co := ⟨hA,by rw [← hE]; exact fx⟩
 exact hR.cell hi
theorem cmp1_c {u v : Nat} (fx : ExH w b x q c) (fL : w.heap[L]? = some (.cells #[At0 b] 75 (0,0))) (hco : WrdR x.co.to) (hu : u < 48) (hv : v < 48) (hT : Tz64M w) :
  Calls Tryz.prog 65 #[i64 (u : Nat),i64 (v : Nat),At0 L] w fun e w' => e = .returned (i64 (cmpI (lenS (x.co.to v)) (lenS (x.co.to u)))) ∧ Below w.heap.size w w' := by
 refine calls_of_E (S := sg 23) (sgOk _) (args := [i64 (u : Nat),i64 (v : Nat),At0 L]) Tryz.func65 rfl rfl (Nat.le_of_ble_eq_true rfl) rfl ?_
 refine DrawE.ord [] [0,1,2,3,4,5,6,8,9,10,11,12,13,14,7,15,16,17] (by kernel_rfl) ?_
 have hd : Below w.heap.size w w.drew := (Below.refl _ _).drew
 refine ⟨_,cells_at (cells_block (hdr fL)) (i := 0) rfl,?_⟩
 refine ⟨v,rfl,hv,?_⟩
 refine ⟨_,co_row (hdr fx) hv,?_⟩
 refine ⟨_,cells_at (cells_block (hdr fL)) (i := 0) rfl,?_⟩
 refine ⟨u,rfl,hu,?_⟩
 refine ⟨_,co_row (hdr fx) hu,?_⟩
 refine Calls.mono (Len_c (hco v hv) (hT.below hd)) ?_
 rintro e X ⟨rfl,hbX⟩
 refine ⟨hbX,?_⟩
 refine Calls.mono (Len_c (hco u hu) ((hT.below hd).below hbX)) ?_
 rintro e Y ⟨rfl,hbY⟩
 refine ⟨hbY,?_⟩
 refine Calls.mono CompareI_c ?_
 rintro e _ ⟨rfl,rfl⟩
 exact ⟨Below.refl _ _,rfl,(hd.trans hbX).trans (hbY.mono hbX.size)⟩
end
end Go.Proofs.YtkpcgpmimejimaaGreatDoor
namespace Go.Proofs.YtkpcgpmimejimaaGreatDoor
open Go.Vc Go.RowKit Go.Sei
theorem insRev_app {key : Nat → Nat} {x : Nat} : ∀ (B A : List Nat),(∀ y ∈ B,key y < key x) → insRev key (B ++ A) x = B ++ insRev key A x
 | [],A,_ => rfl
 | y :: B,A,h => by
  show (if key y < key x then y :: insRev key (B ++ A) x else x :: y :: (B ++ A)) = _
  rw [if_pos (h y List.mem_cons_self),insRev_app B A fun z hz => h z (List.mem_cons_of_mem _ hz)]; rfl
theorem insRev_len {key : Nat → Nat} {x : Nat} : ∀ r : List Nat,(insRev key r x).length = r.length + 1
 | [] => rfl
 | y :: r => by
  unfold insRev
  split
  ·show (insRev key r x).length + 1 = _
   rw [insRev_len r]; rfl
  ·rfl
theorem insRev_mem {key : Nat → Nat} {x a : Nat} : ∀ r : List Nat,a ∈ insRev key r x ↔ a = x ∨ a ∈ r
 | [] => by simp [insRev]
 | y :: r => by
  unfold insRev
  split
  ·rw [List.mem_cons,insRev_mem r,List.mem_cons]
   constructor
   ·rintro (h | h | h) <;> simp [h]
   ·rintro (h | h | h) <;> simp [h]
  ·simp
def sortG (key : Nat → Nat) (l : List Nat) : List Nat := l.foldl (fun acc x => insRev key acc x) []
theorem sortG_snoc (key : Nat → Nat) (l : List Nat) (x : Nat) : sortG key (l ++ [x]) = insRev key (sortG key l) x := by
 unfold sortG
 rw [List.foldl_append]; rfl
theorem foldl_ins_mem {key : Nat → Nat} {a : Nat} : ∀ (l acc : List Nat),a ∈ l.foldl (fun acc x => insRev key acc x) acc ↔ a ∈ l ∨ a ∈ acc
 | [],acc => by simp
 | x :: l,acc => by
  rw [List.foldl_cons,foldl_ins_mem l,insRev_mem,List.mem_cons]
  constructor
  ·rintro (h | h | h) <;> simp [h]
  ·rintro ((h | h) | h) <;> simp [h]
theorem foldl_ins_len {key : Nat → Nat} : ∀ (l acc : List Nat),(l.foldl (fun acc x => insRev key acc x) acc).length = l.length + acc.length
 | [],acc => by simp
 | x :: l,acc => by
  rw [List.foldl_cons,foldl_ins_len l,insRev_len,List.length_cons]
  omega
theorem sortD_mem {key : Nat → Nat} {l : List Nat} {a : Nat} : a ∈ sortD key l ↔ a ∈ l := by
 unfold sortD
 rw [List.mem_reverse,foldl_ins_mem]; simp
theorem sortD_len {key : Nat → Nat} (l : List Nat) : (sortD key l).length = l.length := by
 unfold sortD
 rw [List.length_reverse,foldl_ins_len]; rfl
section
variable {b c L g cap : Nat} {x : ExD} {q : Option Addr} {w : World} {l : List Nat}
abbrev keyC (x : ExD) : Nat → Nat := fun i => lenS (x.co.to i)
theorem insSortI_c {B : Nat} (ho : OwnS natE 3 B w (some ⟨g,0,none⟩) cap l) (fx : ExH w b x q c) (fL : w.heap[L]? = some (.cells #[At0 b] 75 (0,0))) (hT : Tz64M w) (htg : 0 ≠ g) (hco : WrdR x.co.to) (h48 : ∀ a ∈ l,a < 48) (hn : l.length ≤ 19) (hn1 : 1 ≤ l.length) :
  Calls Tryz.prog 110 #[.slice (some ⟨g,0,none⟩) l.length cap,i64 0,i64 l.length,.func (.func 65) #[] #[At0 L]] w fun e w' => e = .returned (.tuple #[]) ∧ OwnS natE 3 B w' (some ⟨g,0,none⟩) cap (sortD (keyC x) l) ∧ w.grownBy w' (some g) := by
 refine calls_of_M (S := sg 53) (sgOk _) (args := [.slice (some ⟨g,0,none⟩) l.length cap,i64 0,i64 l.length,.func (.func 65) #[] #[At0 L]]) (.c .p .p) Tryz.func110 rfl rfl (Nat.le_of_ble_eq_true rfl) rfl ?_
 obtain ⟨E0,hE0⟩ : ∃ E0 : List (Nat × Value),E0 = [(0,.slice (some ⟨g,0,none⟩) l.length cap),(1,i64 0),(2,i64 l.length),(3,.func (.func 65) #[] #[At0 L])] := ⟨_,rfl⟩
 have hbg : b ≠ g := fun e => by
  obtain ⟨_,_,cur,hc⟩ := own_at ho rfl
  have hc : w.heap[g]? = _ := hc
  rw [← e,fx] at hc
  simp at hc
 have hLg : L ≠ g := fun e => by
  obtain ⟨_,_,cur,hc⟩ := own_at ho rfl
  have hc : w.heap[g]? = _ := hc
  rw [← e,fL] at hc
  simp at hc
 refine ⟨Unit,fun _ => ⟨[(0,.slice (some ⟨g,0,none⟩) l.length cap),(1,i64 0),(2,i64 l.length),(3,.func (.func 65) #[] #[At0 L]),(8,i64 1)],[]⟩,fun _ X => w = X,?_,?_⟩
 ·refine ⟨1,wrap_i64 (by omega),?_⟩
  exact ⟨(),⟨.cons rfl (.cons rfl (.cons rfl (.cons rfl (.cons rfl .nil)))),rfl⟩,rfl⟩
 rintro _ _ rfl
 have hl0 : l.take 1 = (sortG (keyC x) (l.take 1)).reverse := by
  cases l with
  | nil => simp at hn1
  | cons a l => rfl
 refine ⟨Nat,fun i => ⟨[(0,.slice (some ⟨g,0,none⟩) l.length cap),(1,i64 0),(2,i64 l.length),(3,.func (.func 65) #[] #[At0 L]),(8,i64 (i : Nat))],[]⟩,fun i X => (1 ≤ i ∧ i ≤ l.length) ∧ OwnS natE 3 B X (some ⟨g,0,none⟩) cap ((sortG (keyC x) (l.take i)).reverse ++ l.drop i) ∧ w.grownBy X (some g),fun i => l.length - i,1,
  ⟨.cons rfl (.cons rfl (.cons rfl (.cons rfl (.cons rfl .nil)))),rfl⟩,⟨⟨Nat.le_refl _,hn1⟩,by rw [← hl0,List.take_append_drop]; exact ho,grown_refl _ _⟩,?_⟩
 rintro i X ⟨⟨hi1,hi⟩,oX,gX⟩
 dsimp only
 refine And.intro (fun hc => ?_) (fun hc => ?_)
 ·have hc : (i : Int) < (l.length : Int) := of_decide_eq_true hc
  have hil : i < l.length := by omega
  obtain ⟨u,hu⟩ : ∃ u,l[i] = u := ⟨_,rfl⟩
  have hum : u ∈ l := by rw [← hu]; exact List.getElem_mem hil
  obtain ⟨S,hS⟩ : ∃ S,S = sortG (keyC x) (l.take i) := ⟨_,rfl⟩
  have hSm : ∀ a ∈ S,a < 48 := fun a ha => by
   rw [hS] at ha
   have := (foldl_ins_mem (key := keyC x) (l.take i) []).1 ha
   rcases this with h | h
   ·exact h48 a (List.mem_of_mem_take h)
   ·cases h
  have hSl : S.length = i := by
   rw [hS]
   unfold sortG
   rw [foldl_ins_len,List.length_take]
   simp; omega
  have htk : sortG (keyC x) (l.take (i + 1)) = insRev (keyC x) S u := by
   rw [List.take_succ_eq_append_getElem hil,hu,sortG_snoc,← hS]
  rw [← hS,← List.getElem_cons_drop hil,hu] at oX
  refine ⟨List Nat × List Nat,fun s => ⟨[(0,.slice (some ⟨g,0,none⟩) l.length cap),(1,i64 0),(2,i64 l.length),(3,.func (.func 65) #[] #[At0 L]),(8,i64 (i : Nat)),(9,i64 s.1.length)],[]⟩,fun s Y => S.reverse = s.1 ++ s.2 ∧ (∀ y ∈ s.2,keyC x y < keyC x u) ∧ OwnS natE 3 B Y (some ⟨g,0,none⟩) cap (s.1 ++ u :: (s.2 ++ l.drop (i + 1))) ∧ w.grownBy Y (some g),fun s => s.1.length,(S.reverse,[]),
   ⟨.cons rfl (.cons rfl (.cons rfl (.cons rfl (.cons rfl (.cons (by show _ = some (i64 (S.reverse.length : Nat)); rw [List.length_reverse,hSl]; rfl) .nil))))),rfl⟩,⟨by rw [List.append_nil],fun y hy => (by cases hy),oX,gX⟩,?_⟩
  clear oX gX
  rintro ⟨A,Bs⟩ Y ⟨hsp,hkB,oY,gY⟩
  dsimp only at hsp hkB oY ⊢
  have hAl : A.length ≤ i := by
   have := congrArg List.length hsp
   rw [List.length_reverse,hSl,List.length_append] at this
   omega
  have hdY : Below Y.heap.size Y Y.drew := (Below.refl _ _).drew
  have fin : ∀ {Z : World},Below Y.heap.size Y Z → insRev (keyC x) A.reverse u = u :: A.reverse → ((1 ≤ i + 1 ∧ i + 1 ≤ l.length) ∧ OwnS natE 3 B Z (some ⟨g,0,none⟩) cap ((sortG (keyC x) (l.take (i + 1))).reverse ++ l.drop (i + 1)) ∧ w.grownBy Z (some g)) := fun {Z} hb hins => by
   refine ⟨⟨by omega,hil⟩,?_,grown_then gY (hb.mono gY.size)⟩
   have h1 : S = Bs.reverse ++ A.reverse := by rw [← List.reverse_append,← hsp,List.reverse_reverse]
   rw [htk,h1,insRev_app _ _ (fun y hy => hkB y (by simpa using hy)),hins]
   have h2 : (Bs.reverse ++ u :: A.reverse).reverse ++ l.drop (i + 1) = A ++ u :: (Bs ++ l.drop (i + 1)) := by simp
   rw [h2]
   exact oY.below hb
  refine DrawE.ord [] [0,1,2,3,4,5,6,7,8,9,10,11,12,13,14,15,16] (by kernel_rfl) ?_
  refine And.intro (fun h => ?_) (fun h => ?_)
  ·have h : (0 : Int) < (A.length : Int) := of_decide_eq_true h
   obtain ⟨A',y,hA⟩ : ∃ A' y,A = A' ++ [y] := by
    refine ⟨A.dropLast,A.getLast (fun e => by rw [e] at h; simp at h),(List.dropLast_concat_getLast _).symm⟩
   subst hA
   have hA'l : (A' ++ [y]).length = A'.length + 1 := by simp
   rw [hA'l] at hAl h ⊢
   have hrl : ((A' ++ [y]) ++ u :: (Bs ++ l.drop (i + 1))).length = l.length := by
    have := congrArg List.length hsp
    rw [List.length_reverse,hSl] at this
    simp only [List.length_append,List.length_cons,List.length_nil,List.length_drop] at this ⊢
    omega
   have hyS : y < 48 := hSm y (by
    have : y ∈ S.reverse := by rw [hsp]; simp
    simpa using this)
   obtain ⟨b',o',hq',hb',hat'⟩ := oY.row.at (i := A'.length) (by rw [hrl]; omega)
   have hbo : b' = g ∧ o' = 0 := by simpa using hq'.symm
   obtain ⟨rfl,rfl⟩ := hbo
   have c1 : Y.cell? ⟨b',0 + (A'.length + 1) * 1,none⟩ = some (i64 u) := by
    have := cells_at (hat' (A'.length + 1) (by rw [hrl]; omega)) (i := 0) (v := i64 u) (by
     have e : ((A' ++ [y]) ++ u :: (Bs ++ l.drop (i + 1)))[A'.length + 1]? = some u := by
      rw [List.getElem?_append_right (by simp),hA'l,Nat.sub_self]; rfl
     rw [List.getElem?_eq_getElem (by rw [hrl]; omega)] at e
     rw [Option.some.inj e]; rfl)
    exact this
   have c2 : Y.cell? ⟨b',0 + A'.length * 1,none⟩ = some (i64 y) := by
    have := cells_at (hat' A'.length (by rw [hrl]; omega)) (i := 0) (v := i64 y) (by
     have e : ((A' ++ [y]) ++ u :: (Bs ++ l.drop (i + 1)))[A'.length]? = some y := by
      rw [List.append_assoc,List.getElem?_append_right (Nat.le_refl _),Nat.sub_self]; rfl
     rw [List.getElem?_eq_getElem (by rw [hrl]; omega)] at e
     rw [Option.some.inj e]; rfl)
    exact this
   refine ⟨A'.length + 1,rfl,by omega,?_⟩
   refine ⟨_,c1,?_⟩
   refine ⟨(A'.length : Nat),(wrap_i64 (by omega)).trans (by omega),?_⟩
   refine ⟨A'.length,rfl,by omega,?_⟩
   refine ⟨_,c2,?_⟩
   have fxY : ExH Y b x q c := (gY.block b (hlt fx) (by simpa using hbg)).trans fx
   have fLY : Y.heap[L]? = some (.cells #[At0 b] 75 (0,0)) := (gY.block L (hlt fL) (by simpa using hLg)).trans fL
   have hTY : Tz64M Y := tz64_same hT (gY.block _ (tz64_in hT) (by simpa using htg))
   refine Calls.mono (cmp1_c (hdr fxY) (hdr fLY) hco (h48 u hum) hyS (hTY.below hdY)) ?_
   rintro e Z ⟨rfl,hbZ⟩
   refine ⟨hbZ,?_⟩
   have hYZ := hdY.trans hbZ
   refine And.intro (fun hm => ?_) (fun hm => ?_)
   ·have hm : cmpI (lenS (x.co.to y)) (lenS (x.co.to u)) < 0 := of_decide_eq_true hm
    have hk : keyC x y < keyC x u := by
     unfold cmpI at hm
     by_cases h1 : lenS (x.co.to y) < lenS (x.co.to u)
     ·exact h1
     ·rw [if_neg h1] at hm
      split at hm <;> omega
    have oZ := oY.below hYZ
    have gZ := grown_then gY (hYZ.mono gY.size)
    obtain ⟨b2,o2,hq2,hb2,hat2⟩ := oZ.row.at (i := A'.length) (by rw [hrl]; omega)
    have hbo2 : b2 = b' ∧ o2 = 0 := by simpa using hq2.symm
    obtain ⟨rfl,rfl⟩ := hbo2
    have dZ : Below Z.heap.size Z Z.drew := (Below.refl _ _).drew
    have d1 := below_cell hYZ c1
    have d2 := below_cell hYZ c2
    refine DrawE.ord [15,17] [0,1,2,3,4,5,6,7,8,9,10,11,12,13,14,15,16,17] (by kernel_rfl) ?_
    refine ⟨(A'.length : Nat),(wrap_i64 (by omega)).trans (by omega),?_⟩
    refine ⟨(A'.length : Nat),(wrap_i64 (by omega)).trans (by omega),?_⟩
    refine ⟨A'.length,rfl,by omega,?_⟩
    refine ⟨_,d2,?_⟩
    refine ⟨A'.length + 1,rfl,by omega,?_⟩
    refine ⟨_,d1,?_⟩
    refine ⟨A'.length + 1,rfl,by omega,?_⟩
    refine own_set (i := A'.length + 1) (v := y) (ttOk.get 3 _ rfl) rfl (oZ.below dZ) (by rw [hrl]; omega) fun V oV gV => ?_
    refine ⟨A'.length,rfl,by omega,?_⟩
    refine own_set (i := A'.length) (v := u) (ttOk.get 3 _ rfl) rfl oV (by rw [List.length_set,hrl]; omega) fun U oU gU => ?_
    have e1 : (((A' ++ [y]) ++ u :: (Bs ++ l.drop (i + 1))).set (A'.length + 1) y).set A'.length u = A' ++ u :: ((y :: Bs) ++ l.drop (i + 1)) := by
     rw [List.append_assoc,List.set_append_right _ _ (by omega),Nat.add_sub_cancel_left,List.set_append_right _ _ (by omega),Nat.sub_self]; rfl
    rw [e1] at oU
    refine ⟨(A'.length : Nat),(wrap_i64 (by omega)).trans (by omega),?_⟩
    refine ⟨(A',y :: Bs),⟨.cons rfl (.cons rfl (.cons rfl (.cons rfl (.cons rfl (.cons rfl .nil))))),rfl⟩,⟨by rw [hsp]; simp,fun z hz => ?_,oU,grown_trans (grown_trans (grown_then gZ (dZ.mono gZ.size)) gV) gU⟩,by show A'.length < _; omega⟩
    rcases List.mem_cons.1 hz with hz | hz
    ·rw [hz]; exact hk
    ·exact hkB z hz
   ·have hm : ¬ cmpI (lenS (x.co.to y)) (lenS (x.co.to u)) < 0 := of_decide_eq_false hm
    have hk : ¬ keyC x y < keyC x u := fun h => hm (by unfold cmpI; rw [if_pos h]; decide)
    refine ⟨((i + 1 : Nat) : Int),(wrap_i64 (by omega)).trans (by omega),?_⟩
    refine ⟨i + 1,⟨.cons rfl (.cons rfl (.cons rfl (.cons rfl (.cons rfl .nil)))),rfl⟩,fin hYZ ?_,by show l.length - (i + 1) < l.length - i; omega⟩
    rw [List.reverse_append]
    exact if_neg hk
  ·have h : ¬ (0 : Int) < (A.length : Int) := of_decide_eq_false h
   have hA0 : A = [] := List.length_eq_zero_iff.1 (by omega)
   subst hA0
   refine brF ?_
   refine ⟨((i + 1 : Nat) : Int),(wrap_i64 (by omega)).trans (by omega),?_⟩
   exact ⟨i + 1,⟨.cons rfl (.cons rfl (.cons rfl (.cons rfl (.cons rfl .nil)))),rfl⟩,fin hdY rfl,by show l.length - (i + 1) < l.length - i; omega⟩
 ·have hc : ¬ (i : Int) < (l.length : Int) := of_decide_eq_false hc
  obtain rfl : i = l.length := by omega
  rw [List.take_length,List.drop_length,List.append_nil] at oX
  exact ⟨rfl,oX,gX⟩
end
end Go.Proofs.YtkpcgpmimejimaaGreatDoor
namespace Go.Proofs.YtkpcgpmimejimaaGreatDoor
open Go.Vc Go.RowKit Go.Sei
theorem tMem6 : ∃ G,TyEq Tryz.prog 30 true 6 2 G ∧ ∀ f : Nat → UInt8,G (seg 6 fun i => u8 (f i)) := by
 refine ⟨_,.array (m := 6) (by decide) Tryz.underlying30 (fun w => Tryz.isAgg30 w) (known_of (by kernel_rfl) (by kernel_rfl)).1 (by kernel_rfl) tU8,fun f i hi => ?_⟩
 refine ⟨((f i).toNat : Int),?_⟩
 unfold chunk
 have h := seg_at (n := 6) (fun i => u8 (f i)) hi
 rw [Nat.mul_one]
 have hl : i < (seg 6 fun i => u8 (f i)).length := by rw [seg_len]; exact hi
 rw [← List.getElem_cons_drop hl,List.take_succ_cons,List.take_zero]
 rw [List.getElem?_eq_getElem hl] at h
 rw [Option.some.inj h]; rfl
theorem mem6_iff {f g : Nat → UInt8} : seg 6 (fun i => u8 (f i)) = seg 6 (fun i => u8 (g i)) ↔ ((List.range 6).all fun l => decide (f l = g l)) = true := by
 rw [List.all_eq_true]
 constructor
 ·intro h i hi
  have hi := List.mem_range.1 hi
  have h3 := seg_at (n := 6) (fun i => u8 (f i)) hi
  rw [h,seg_at (n := 6) (fun i => u8 (g i)) hi] at h3
  have h4 := Option.some.inj h3
  unfold u8 at h4
  injection h4 with _ h5
  exact decide_eq_true (u8_eq.1 h5).symm
 ·intro h
  unfold seg
  refine List.map_congr_left fun i hi => ?_
  rw [of_decide_eq_true (h i hi)]
theorem eql_mem6 (x y : Operand) (f g : Nat → UInt8) (w : World) : (do eqGuard .eql 30 x y (.agg (seg 6 fun i => u8 (f i)).toArray) (.agg (seg 6 fun i => u8 (g i)).toArray); binOp .eql 30 (.agg (seg 6 fun i => u8 (f i)).toArray) (.agg (seg 6 fun i => u8 (g i)).toArray)).run Tryz.prog w = .ok (.bool ((List.range 6).all fun l => decide (f l = g l))) w := by
 obtain ⟨G,h1,h2⟩ := tMem6
 have := eql_ty h1 9998 rfl (by kernel_rfl) (seg_len 6 _) (seg_len 6 _) (h2 f) (h2 g) x y w
 rw [this,cdec_iff mem6_iff,Bool.decide_eq_true]
section
variable {b c L g cap : Nat} {x : ExD} {q : Option Addr} {w : World} {l : List Nat}
theorem stableI_c {B : Nat} (ho : OwnS natE 3 B w (some ⟨g,0,none⟩) cap l) (fx : ExH w b x q c) (fL : w.heap[L]? = some (.cells #[At0 b] 75 (0,0))) (hT : Tz64M w) (htg : 0 ≠ g) (hco : WrdR x.co.to) (h48 : ∀ a ∈ l,a < 48) (hn : l.length ≤ 19) (hn1 : 1 ≤ l.length) :
  Calls Tryz.prog 92 #[.slice (some ⟨g,0,none⟩) l.length cap,i64 l.length,.func (.func 65) #[] #[At0 L]] w fun e w' => e = .returned (.tuple #[]) ∧ OwnS natE 3 B w' (some ⟨g,0,none⟩) cap (sortD (keyC x) l) ∧ w.grownBy w' (some g) := by
 refine calls_of_E (S := sg 63) (sgOk _) (args := [.slice (some ⟨g,0,none⟩) l.length cap,i64 l.length,.func (.func 65) #[] #[At0 L]]) Tryz.func92 rfl rfl (Nat.le_of_ble_eq_true rfl) rfl ?_
 refine ⟨Unit,fun _ => ⟨[(0,.slice (some ⟨g,0,none⟩) l.length cap),(1,i64 l.length),(2,.func (.func 65) #[] #[At0 L]),(6,i64 20),(7,i64 0),(8,i64 20)],[]⟩,fun _ X => w = X,fun _ => 0,(),⟨.cons rfl (.cons rfl (.cons rfl (.cons rfl (.cons rfl (.cons rfl .nil))))),rfl⟩,rfl,?_⟩
 rintro _ _ rfl
 refine brN (decide_eq_false (by omega)) ?_
 refine Calls.mono (insSortI_c ho fx fL hT htg hco h48 hn hn1) ?_
 rintro e X ⟨rfl,oX,gX⟩
 refine ⟨Unit,fun _ => ⟨[(1,i64 l.length),(6,i64 20)],[]⟩,fun _ Y => X = Y,fun _ => 0,(),⟨.cons rfl (.cons rfl .nil),rfl⟩,rfl,?_⟩
 rintro _ _ rfl
 refine brN (decide_eq_false (by omega)) ?_
 exact ⟨rfl,oX,gX⟩
theorem SortStableI_c {B : Nat} (ho : OwnS natE 3 B w (some ⟨g,0,none⟩) cap l) (fx : ExH w b x q c) (fL : w.heap[L]? = some (.cells #[At0 b] 75 (0,0))) (hT : Tz64M w) (htg : 0 ≠ g) (hco : WrdR x.co.to) (h48 : ∀ a ∈ l,a < 48) (hn : l.length ≤ 19) (hn1 : 1 ≤ l.length) :
  Calls Tryz.prog 64 #[.slice (some ⟨g,0,none⟩) l.length cap,.func (.func 65) #[] #[At0 L]] w fun e w' => e = .returned (.tuple #[]) ∧ OwnS natE 3 B w' (some ⟨g,0,none⟩) cap (sortD (keyC x) l) ∧ w.grownBy w' (some g) := by
 refine calls_of_E (S := sg 9) (sgOk _) (args := [.slice (some ⟨g,0,none⟩) l.length cap,.func (.func 65) #[] #[At0 L]]) Tryz.func64 rfl rfl (Nat.le_of_ble_eq_true rfl) rfl ?_
 refine Calls.mono (stableI_c ho fx fL hT htg hco h48 hn hn1) ?_
 rintro e X ⟨rfl,h1,h2⟩
 exact ⟨rfl,h1,h2⟩
theorem headD_get {l : List Nat} (h : 0 < l.length) : l.headD 48 = l[0] := by
 cases l with
 | nil => simp at h
 | cons a r => rfl
theorem wrs_lt {k a : Nat} (h : a ∈ wrsOf x k) : a < x.ev.length := by
 unfold wrsOf at h
 exact List.mem_range.1 (List.mem_filter.1 h).1
theorem rank_lt {k a : Nat} (h : a ∈ rankOf x k) : a < x.ev.length := wrs_lt (sortD_mem.1 h)
theorem exC_co (q : Option Addr) (c : Nat) : ((exC x q c).drop 99).take 49 = relC x.co := by
 obtain ⟨A,T,hA,hE⟩ := exA_co x q c
 show ((exC { x with co := x.co } q c).drop 99).take 49 = _
 rw [hE,← hA,List.drop_left,List.take_append_of_le_length (by rw [relC_len]; decide),List.take_of_length_le (by rw [relC_len]; decide)]
theorem exC_mem (q : Option Addr) (c : Nat) : ((exC x q c).drop 327).take 6 = seg 6 fun i => u8 (x.mem i) := by
 obtain ⟨A,T,hA,hE⟩ := ex_mem x q c []
 have := hE x.mem
 rw [List.append_nil] at this
 show ((exC { x with mem := x.mem } q c).drop 327).take 6 = _
 rw [this,← hA,List.drop_left,List.take_append_of_le_length (by rw [seg_len]; decide),List.take_of_length_le (by rw [seg_len]; decide)]
abbrev Mem6H (X : World) (b : Nat) (f : Nat → UInt8) : Prop := X.heap[b]? = some (.cells (seg 6 fun i => u8 (f i)).toArray 30 (0,0))
theorem coRight_c {locs : Nat} (fx : ExH w b x q c) (hv : ExV w x q) (hlo : locs ≤ 6) (hne : ∀ l,l < locs → wrsOf x l ≠ []) (hT : Tz64M w) :
  Calls Tryz.prog 37 #[At0 b,i64 locs] w fun e w' => e = .returned (.bool (coRight x locs)) ∧ Below w.heap.size w w' := by
 refine calls_of_M (S := sg 87) (sgOk _) (args := [At0 b,i64 locs]) (.c .p (.c .p (.c .p (.c .p .p)))) Tryz.func37 rfl rfl (Nat.le_of_ble_eq_true rfl) rfl ?_
 obtain ⟨L,hL⟩ : ∃ L,L = w.heap.size := ⟨_,rfl⟩
 have hbw := hlt fx
 have hn := hv.n
 have htl := tz64_in hT
 refine ⟨Unit,fun _ => ⟨[(1,i64 locs),(2,At0 L)],[]⟩,fun _ X => X.heap[L]? = some (.cells #[At0 b] 75 (0,0)) ∧ X.heap.size = L + 1 ∧ Below w.heap.size w X,⟨(),⟨.cons rfl (.cons (by rw [hL]; rfl) .nil),rfl⟩,by rw [hL]; exact hnew w _,by rw [hL]; exact World.size_alloc _ _,(Below.refl _ w).alloc (Nat.le_refl _) _⟩,?_⟩
 rintro _ X ⟨fL,sX,hbX⟩
 refine ⟨Unit,fun _ => ⟨[(1,i64 locs),(2,At0 L),(5,At0 (L + 1))],[]⟩,fun _ Y => RelH Y (L + 1) ⟨x.ev.length,fun _ => 0⟩ ∧ Y.heap.size = L + 2 ∧ Below X.heap.size X Y,?_,?_⟩
 ·refine ⟨_,cells_at (cells_block fL) (i := 0) rfl,?_⟩
  refine ⟨_,cells_at (cells_block (block_below hbX fx)) (i := 0) rfl,?_⟩
  refine ⟨relC ⟨x.ev.length,fun _ => 0⟩,by kernel_rfl,?_⟩
  refine store_new (X := X) (v := .agg (relC ⟨x.ev.length,fun _ => 0⟩).toArray) (ttOk.get 27 _ rfl) (relC_len _) (by kernel_rfl) (relC_one _) fun Z hbZ fZ sZ => ?_
  rw [sX] at fZ sZ
  exact ⟨(),⟨.cons rfl (.cons rfl (.cons (by rw [← sX]; rfl) .nil)),rfl⟩,fZ,sZ,hbZ⟩
 rintro _ Y ⟨fT,sY,hbY⟩
 refine ⟨Unit,fun _ => ⟨[(1,i64 locs),(2,At0 L),(5,At0 (L + 1)),(6,At0 (L + 2))],[]⟩,fun _ Z => Mem6H Z (L + 2) (fun _ => 0) ∧ RelH Z (L + 1) ⟨x.ev.length,fun _ => 0⟩ ∧ Z.heap[L]? = some (.cells #[At0 b] 75 (0,0)) ∧ Z.heap.size = L + 3 ∧ Below w.heap.size w Z,?_,?_⟩
 ·exact ⟨(),⟨.cons rfl (.cons rfl (.cons rfl (.cons (by rw [← sY]; rfl) .nil))),rfl⟩,by rw [← sY]; exact hnew Y _,hold _ fT,hold _ (block_below hbY fL),by rw [World.size_alloc,sY],(hbX.trans (hbY.mono hbX.size)).alloc (by have := hbX.size; have := hbY.size; omega) _⟩
 clear fL sX hbX fT sY hbY
 clear X Y
 rintro _ X ⟨fM,fT,fL,sX,hbX⟩
 obtain ⟨P0,hP0⟩ : ∃ P0 : RelD × (Nat → UInt8),P0 = (⟨x.ev.length,fun _ => 0⟩,fun _ => 0) := ⟨_,rfl⟩
 have hco : coRight x locs = match coGo x locs 0 P0 with
  | none => false
  | some p => relEq p.1 x.co && (List.range 6).all fun l => decide (p.2 l = x.mem l) := by rw [hP0]; rfl
 refine ⟨RelD × (Nat → UInt8),fun P => ⟨[(2,At0 L),(5,At0 (L + 1)),(6,At0 (L + 2))],[]⟩,fun P Z => coGo x locs 0 P0 = some P ∧ Mem6H Z (L + 2) P.2 ∧ RelH Z (L + 1) P.1 ∧ Z.heap[L]? = some (.cells #[At0 b] 75 (0,0)) ∧ Below w.heap.size w Z,?_,?_⟩
 ·refine ⟨Nat × (RelD × (Nat → UInt8)),fun s => ⟨[(2,At0 L),(5,At0 (L + 1)),(6,At0 (L + 2)),(17,i64 locs),(18,i64 (s.1 : Nat))],[]⟩,fun s Z => s.1 ≤ locs ∧ coGo x (locs - s.1) s.1 s.2 = coGo x locs 0 P0 ∧ WrdR s.2.1.to ∧ Mem6H Z (L + 2) s.2.2 ∧ RelH Z (L + 1) s.2.1 ∧ Z.heap[L]? = some (.cells #[At0 b] 75 (0,0)) ∧ Below w.heap.size w Z ∧ L + 3 ≤ Z.heap.size,fun s => locs - s.1,(0,P0),
   ⟨.cons rfl (.cons rfl (.cons rfl (.cons rfl (.cons rfl .nil)))),rfl⟩,⟨Nat.zero_le _,rfl,by rw [hP0]; exact fun i _ => (by show 0 < _; decide),by rw [hP0]; exact fM,by rw [hP0]; exact fT,fL,hbX,by omega⟩,?_⟩
  clear fM fT fL sX hbX
  rintro ⟨l,P⟩ Z ⟨hl,hgo,hPw,fM,fT,fL,hbZ,sZ⟩
  dsimp only at hl hgo hPw fM fT sZ ⊢
  refine And.intro (fun hc => ?_) (fun hc => ?_)
  ·have hc : (l : Int) < (locs : Int) := of_decide_eq_true hc
   have hll : l < locs := by omega
   have hstep : coGo x (locs - l) l P = if (rankOf x l).headD 48 = l then coGo x (locs - (l + 1)) (l + 1) (lineR (rankOf x l) P.1,upd P.2 l (lastV x.ev (rankOf x l))) else none := by
    rw [show locs - l = (locs - (l + 1)) + 1 by omega]; rfl
   refine ⟨_,cells_at (cells_block fL) (i := 0) rfl,?_⟩
   refine ⟨_,cells_at (cells_block (block_below hbZ fx)) (i := 0) rfl,?_⟩
   obtain ⟨pr,hpr⟩ : ∃ pr : Nat → Bool,pr = fun i => decide ((evA x i).k = 2) && decide ((evA x i).l.toNat = l) := ⟨_,rfl⟩
   refine ⟨Nat × Option Addr × Nat,fun s => ⟨[(2,At0 L),(5,At0 (L + 1)),(6,At0 (L + 2)),(7,i64 (l : Nat)),(8,.slice s.2.1 ((List.range s.1).filter pr).length s.2.2),(17,i64 locs),(18,i64 (l : Nat)),(24,.slice q x.ev.length c),(25,i64 x.ev.length),(26,i64 (s.1 : Nat))],[]⟩,fun s V => s.1 ≤ x.ev.length ∧ OwnS natE 3 Z.heap.size V s.2.1 s.2.2 ((List.range s.1).filter pr) ∧ Below Z.heap.size Z V,fun s => x.ev.length - s.1,(0,none,0),
    ⟨.cons rfl (.cons rfl (.cons rfl (.cons rfl (.cons rfl (.cons rfl (.cons rfl (.cons rfl (.cons rfl (.cons rfl .nil))))))))),rfl⟩,⟨Nat.zero_le _,OwnS.nil,Below.refl _ _⟩,?_⟩
   rintro ⟨k,ps,cs⟩ V ⟨hk,oV,hbV⟩
   dsimp only at hk oV ⊢
   have hVs := hbV.size
   refine And.intro (fun hc => ?_) (fun hc => ?_)
   ·have hc : (k : Int) < (x.ev.length : Int) := of_decide_eq_true hc
    have hkl : k < x.ev.length := by omega
    have hbwV := hbZ.trans (hbV.mono hbZ.size)
    obtain ⟨bq,oq,hqe,hb,hat⟩ := ev_enc (hv.ev.below hbwV) hkl
    rw [evA_eq] at hat
    have hfl : (List.range (k + 1)).filter pr = (List.range k).filter pr ++ if pr k = true then [k] else [] := by
     rw [List.range_succ,List.filter_append,List.filter_cons,List.filter_nil]
    have hprk : pr k = (decide ((evA x k).k = 2) && decide ((evA x k).l.toNat = l)) := by rw [hpr]
    have hll2 : ((List.range k).filter pr).length ≤ k := by
     have := List.length_filter_le pr (List.range k)
     rw [List.length_range] at this
     exact this
    obtain ⟨e,he⟩ : ∃ e,e = evA x k := ⟨_,rfl⟩
    rw [← he] at hat hprk
    have eq0 : some (Value.slice q x.ev.length c) = some (Value.slice (some ⟨bq,oq,none⟩) x.ev.length c) := by rw [hqe]
    subst hqe
    refine ⟨k,rfl,hkl,?_⟩
    refine ⟨evE.enc e,rfl,hat,hb,?_⟩
    refine store_new (X := V) (v := .agg (evE.enc e).toArray) (ttOk.get 52 _ rfl) rfl rfl (List.all_eq_true.2 fun u hu => evE.one e u hu) fun U hbU fU sU => ?_
    have fU : U.heap[V.heap.size]? = some (.cells (evE.enc e).toArray 52 (0,0)) := fU
    have oU := oV.below hbU
    have hbU2 := hbV.trans (hbU.mono hVs)
    have hUs := hbU2.size
    have skip : pr k = false → (k + 1 ≤ x.ev.length ∧ OwnS natE 3 Z.heap.size U ps cs ((List.range (k + 1)).filter pr) ∧ Below Z.heap.size Z U) := fun h => ⟨hkl,by rw [hfl,h]; simpa using oU,hbU2⟩
    have skipE : pr k = false → ((List.range (k + 1)).filter pr).length = ((List.range k).filter pr).length := fun h => by rw [hfl,h]; simp
    refine ⟨u8 e.k,cells_at (cells_block fU) (i := 1) rfl,?_⟩
    refine And.intro (fun h1 => ?_) (fun h1 => ?_)
    ·have h1 : e.k = 2 := u8_eq.1 (of_decide_eq_true h1)
     refine ⟨u8 e.l,cells_at (cells_block fU) (i := 2) rfl,?_⟩
     refine ⟨(e.l.toNat : Int),wrap_u8_i64 _,?_⟩
     refine And.intro (fun h2 => ?_) (fun h2 => ?_)
     ·have h2 : (e.l.toNat : Int) = (l : Int) := of_decide_eq_true h2
      have hp1 : pr k = true := by rw [hprk,decide_eq_true h1,decide_eq_true (by omega : e.l.toNat = l)]; rfl
      rw [if_pos hp1] at hfl
      refine ⟨⟨by decide,by decide,rfl⟩,natE.enc k,rfl,?_⟩
      have hb2 : Below U.heap.size U (U.alloc (.cells (natE.enc k).toArray 3)) := (Below.refl _ _).alloc (Nat.le_refl _) _
      have sb2 := hb2.size
      unfold opsE stepE
      show SatR _ _
      refine appI (oU.below hb2) (one_new natE k) (by omega) (by omega) fun p' c' S oS gS hat2 => ?_
      rw [own_map] at gS
      rw [← hfl] at oS ⊢
      refine ⟨((k + 1 : Nat) : Int),(wrap_i64 (by omega)).trans (by omega),?_⟩
      exact ⟨(k + 1,p',c'),⟨.cons rfl (.cons rfl (.cons rfl (.cons rfl (.cons rfl (.cons rfl (.cons rfl (.cons rfl (.cons rfl (.cons rfl .nil))))))))),rfl⟩,⟨hkl,oS,hbU2.trans ((hb2.mono hUs).trans (past_below (oU.below hb2) (by omega) (Nat.le_refl _) gS))⟩,by show x.ev.length - (k + 1) < x.ev.length - k; omega⟩
     ·have h2 : ¬ (e.l.toNat : Int) = (l : Int) := of_decide_eq_false h2
      have hp0 : pr k = false := by rw [hprk,decide_eq_false (by omega : ¬ e.l.toNat = l),Bool.and_false]
      refine ⟨((k + 1 : Nat) : Int),(wrap_i64 (by omega)).trans (by omega),?_⟩
      exact ⟨(k + 1,ps,cs),⟨.cons rfl (.cons rfl (.cons rfl (.cons rfl (.cons (by show _ = some (Value.slice ps ((List.range (k + 1)).filter pr).length cs); rw [skipE hp0]; rfl) (.cons rfl (.cons rfl (.cons rfl (.cons rfl (.cons rfl .nil))))))))),rfl⟩,skip hp0,by show x.ev.length - (k + 1) < x.ev.length - k; omega⟩
    ·have h1 : ¬ e.k = 2 := fun e2 => (of_decide_eq_false h1) (by rw [e2]; rfl)
     have hp0 : pr k = false := by rw [hprk,decide_eq_false h1]; rfl
     refine brF ?_
     refine ⟨((k + 1 : Nat) : Int),(wrap_i64 (by omega)).trans (by omega),?_⟩
     exact ⟨(k + 1,ps,cs),⟨.cons rfl (.cons rfl (.cons rfl (.cons rfl (.cons (by show _ = some (Value.slice ps ((List.range (k + 1)).filter pr).length cs); rw [skipE hp0]; rfl) (.cons rfl (.cons rfl (.cons rfl (.cons rfl (.cons rfl .nil))))))))),rfl⟩,skip hp0,by show x.ev.length - (k + 1) < x.ev.length - k; omega⟩
   have hc : ¬ (k : Int) < (x.ev.length : Int) := of_decide_eq_false hc
   obtain rfl : k = x.ev.length := by omega
   have hwr : (List.range x.ev.length).filter pr = wrsOf x l := by rw [hpr]; rfl
   rw [hwr] at oV ⊢
   have hwn := hne l hll
   have hw1 : 1 ≤ (wrsOf x l).length := List.length_pos_iff.2 hwn
   have hw19 : (wrsOf x l).length ≤ 19 := by
    have := List.length_filter_le pr (List.range x.ev.length)
    rw [hwr,List.length_range] at this
    omega
   have hps : ∃ g,ps = some ⟨g,0,none⟩ := by
    rcases oV.inv with ⟨_,_,h⟩ | ⟨g,cur,h,_⟩
    ·exact (hwn h).elim
    ·exact ⟨g,h⟩
   obtain ⟨g,rfl⟩ := hps
   have hg := (own_at oV rfl).1
   have hg : Z.heap.size ≤ g := hg
   have hbwV := hbZ.trans (hbV.mono hbZ.size)
   have hZw := hbZ.size
   refine Calls.mono (SortStableI_c oV (block_below hbwV fx) (block_below hbV fL) (hT.below hbwV) (by omega) hv.co (fun a ha => by have := wrs_lt ha; omega) hw19 hw1) ?_
   rintro e U ⟨rfl,oU,gU⟩
   have oU : OwnS natE 3 Z.heap.size U (some ⟨g,0,none⟩) cs (rankOf x l) := oU
   have hrl : (rankOf x l).length = (wrsOf x l).length := sortD_len _
   have hbU : Below Z.heap.size Z U := hbV.trans (below_grown gU hVs hg)
   have hbwU := hbZ.trans (hbU.mono hZw)
   have hU0 : 0 < (rankOf x l).length := by omega
   obtain ⟨bq,oq,hqe,hbq,hatq⟩ := oU.row.at hU0
   have hbo : bq = g ∧ oq = 0 := by simpa using hqe.symm
   obtain ⟨rfl,rfl⟩ := hbo
   rw [← hrl]
   have hh : (rankOf x l).headD 48 = (rankOf x l)[0] := headD_get hU0
   refine ⟨0,rfl,hU0,?_⟩
   refine ⟨i64 (rankOf x l)[0],by have := cells_at (hatq 0 hU0) (i := 0) (v := i64 (rankOf x l)[0]) rfl; exact this,?_⟩
   refine And.intro (fun h => ?_) (fun h => ?_)
   ·have h : (!decide (((rankOf x l)[0] : Int) = (l : Int))) = true := h
    have h : ¬ ((rankOf x l)[0] : Int) = (l : Int) := by simpa using h
    rw [hstep,if_neg (by rw [hh]; omega)] at hgo
    refine ⟨rb ?_,hbwU⟩
    rw [hco,← hgo]
   have h : (!decide (((rankOf x l)[0] : Int) = (l : Int))) = false := h
   have h : ((rankOf x l)[0] : Int) = (l : Int) := by simpa using h
   rw [hstep,if_pos (by rw [hh]; omega)] at hgo
   have fTU := block_below hbU fT
   have hRT : RelAt U (L + 1) 0 27 [] [] P.1 := ⟨rfl,by simpa using fTU⟩
   have hrk48 : ∀ a ∈ rankOf x l,a < 48 := fun a ha => by have := rank_lt ha; omega
   have hLZ := hlt fT
   have hL2Z := hlt fM
   refine Calls.mono (line_c hRT hPw oU.row (fun a ha => by cases ha; exact ⟨hbq,by show bq ≠ L + 1; omega⟩) (by omega) hrk48) ?_
   rintro e S ⟨rfl,hRS,gS⟩
   have fTS : RelH S (L + 1) (lineR (rankOf x l) P.1) := by simpa using hRS.cells
   have hbS : Below w.heap.size w S := hbwU.trans (below_grown gS hbwU.size (by omega))
   have fMS := (gS.block (L + 2) (hlt (block_below hbU fM)) (by simp)).trans (block_below hbU fM)
   have fLS := (gS.block L (hlt (block_below hbU fL)) (by simp)).trans (block_below hbU fL)
   have oS := own_box oU fTU (by decide) gS
   obtain ⟨j,hj⟩ : ∃ j,j + 1 = (rankOf x l).length := ⟨(rankOf x l).length - 1,by omega⟩
   have hjl : j < (rankOf x l).length := by omega
   obtain ⟨b6,o6,hp6,hl6,hat6⟩ := oS.row.at hjl
   have hbo6 : b6 = bq ∧ o6 = 0 := by simpa using hp6.symm
   obtain ⟨rfl,rfl⟩ := hbo6
   obtain ⟨t,ht⟩ : ∃ t,(rankOf x l)[j] = t := ⟨_,rfl⟩
   have htev : t < x.ev.length := rank_lt (by rw [← ht]; exact List.getElem_mem hjl)
   have hlast : (rankOf x l).getLastD 0 = t := by
    rw [List.getLastD_eq_getLast?,List.getLast?_eq_getElem?,show (rankOf x l).length - 1 = j by omega,List.getElem?_eq_getElem hjl,ht]; rfl
   obtain ⟨b7,o7,hp7,hl7,hat7⟩ := ev_enc (hv.ev.below hbS) htev
   rw [evA_eq] at hat7
   have hlV : lastV x.ev (rankOf x l) = (evA x t).v := by
    show (x.ev.getD ((rankOf x l).getLastD 0) ev0).v = _
    rw [hlast]; rfl
   have dS : Below S.heap.size S S.drew := (Below.refl _ _).drew
   refine DrawE.ord [15] [0,1,2,3,4,5,6,7,8,9,10,11,12,13,14,15] (by kernel_rfl) ?_
   refine ⟨_,cells_at (cells_block (hdr fLS)) (i := 0) rfl,?_⟩
   refine ⟨_,cells_at (cells_block (hdr (block_below hbS fx))) (i := 0) rfl,?_⟩
   refine ⟨(j : Nat),(wrap_i64 (by omega)).trans (by omega),?_⟩
   refine ⟨j,rfl,hjl,?_⟩
   refine ⟨i64 t,by have := cells_at (cells_below dS (hat6 j hjl)) (i := 0) (v := i64 t) (by rw [ht]; rfl); exact this,?_⟩
   rw [hp7]
   refine ⟨t,rfl,htev,?_⟩
   refine ⟨u8 (evA x t).v,by have := cells_at (cells_below dS hat7) (i := 3) (v := u8 (evA x t).v) rfl; exact this,?_⟩
   refine ⟨l,rfl,by omega,?_⟩
   refine store_one (ttOk.get 5 _ rfl) (hdr fMS) (o := 0 + l * 1) (v := u8 (evA x t).v) rfl rfl (by rw [seg_len]; omega) rfl fun T fT2 gT sT => ?_
   have gT2 : S.grownBy T (some (L + 2)) := grown_trans (grown_of_below dS) gT
   have e8 := seg_set (n := 6) (fun i => u8 (P.2 i)) (fun i => u8 (upd P.2 l (evA x t).v i)) (i := l) (by omega) rfl (fun j hj => by rw [upd_ne _ _ hj])
   rw [upd_same] at e8
   rw [Nat.mul_one,Nat.zero_add,e8] at fT2
   refine ⟨((l + 1 : Nat) : Int),(wrap_i64 (by omega)).trans (by omega),?_⟩
   refine ⟨(l + 1,(lineR (rankOf x l) P.1,upd P.2 l (evA x t).v)),⟨.cons rfl (.cons rfl (.cons rfl (.cons rfl (.cons rfl .nil)))),rfl⟩,⟨hll,by rw [← hlV]; exact hgo,lineR_wrd hPw hrk48,fT2,(gT2.block (L + 1) (hlt fTS) (by simp)).trans fTS,(gT2.block L (hlt fLS) (by simp)).trans fLS,hbS.trans (below_grown gT2 hbS.size (by omega)),by have := gT2.size; have := gS.size; have := hbU.size; omega⟩,by show locs - (l + 1) < locs - l; omega⟩
  ·have hc : ¬ (l : Int) < (locs : Int) := of_decide_eq_false hc
   obtain rfl : l = locs := by omega
   rw [Nat.sub_self] at hgo
   exact ⟨P,⟨.cons rfl (.cons rfl (.cons rfl .nil)),rfl⟩,hgo.symm,fM,fT,fL,hbZ⟩
 rintro P Z ⟨hgo,fM,fT,fL,hbZ⟩
 have hco2 : coRight x locs = (relEq P.1 x.co && (List.range 6).all fun l => decide (P.2 l = x.mem l)) := by rw [hco,hgo]
 refine DrawE.ord [] [0,1,2,3,4,5,6,7,8,9,10,11,12,13,14,15] (by kernel_rfl) ?_
 have dZ : Below Z.heap.size Z Z.drew := (Below.refl _ _).drew
 refine ⟨relC P.1,relC_len _,cells_block (hdr fT),hlt (hdr fT),?_⟩
 refine ⟨_,cells_at (cells_block (hdr fL)) (i := 0) rfl,?_⟩
 have fxZ := hdr (block_below hbZ fx)
 refine ⟨relC x.co,relC_len _,by have h := cells_sub (n := 99) (m := 49) (cells_block fxZ); rw [show (exC x q c).toArray.toList = exC x q c from rfl,exC_co] at h; exact h,hlt fxZ,?_⟩
 refine ⟨_,fun w => eql_rel _ _ P.1 x.co w,?_⟩
 have fin : Below w.heap.size w Z.drew := hbZ.trans (dZ.mono hbZ.size)
 refine And.intro (fun h => ?_) (fun h => ?_)
 ·have h : relEq P.1 x.co = true := h
  refine ⟨seg 6 (fun i => u8 (P.2 i)),seg_len _ _,cells_block (hdr fM),hlt (hdr fM),?_⟩
  refine ⟨_,cells_at (cells_block (hdr fL)) (i := 0) rfl,?_⟩
  refine ⟨seg 6 (fun i => u8 (x.mem i)),seg_len _ _,by have h := cells_sub (n := 327) (m := 6) (cells_block fxZ); rw [show (exC x q c).toArray.toList = exC x q c from rfl,exC_mem] at h; exact h,hlt fxZ,?_⟩
  refine ⟨_,fun w => eql_mem6 _ _ P.2 x.mem w,?_⟩
  exact ⟨rb (by rw [hco2,h,Bool.true_and]),fin⟩
 ·have h : relEq P.1 x.co = false := h
  exact ⟨rb (by rw [hco2,h,Bool.false_and]),fin⟩
end
end Go.Proofs.YtkpcgpmimejimaaGreatDoor
namespace Go.Proofs.YtkpcgpmimejimaaGreatDoor
open Go.Vc Go.RowKit Go.Sei
section
variable {b c : Nat} {x : ExD} {q : Option Addr} {w : World}
theorem row_at {X : World} {o : Nat} {A T : List Value} {r : RelD} (fx : ExH X b x q c) (hA : A.length = o) (hE : exC x q c = A ++ (relC r ++ T)) {i : Nat} (hi : i < 48) : X.cell? ⟨b,o + 1 + i * 1,none⟩ = some (s64 (r.to i)) := by
 have hR : RelAt X b o 34 A T r := ⟨hA,by rw [← hE]; exact fx⟩
 exact hR.cell hi
theorem po_row {X : World} (fx : ExH X b x q c) {i : Nat} (hi : i < 48) : X.cell? ⟨b,0 + 1 + 1 + i * 1,none⟩ = some (s64 (x.po.to i)) := by
 obtain ⟨A,T,hA,hE⟩ := ex_po x q c []
 exact row_at fx hA (by rw [← hE,List.append_nil]) hi
theorem dt_row {X : World} (fx : ExH X b x q c) {i : Nat} (hi : i < 48) : X.cell? ⟨b,0 + 148 + 1 + i * 1,none⟩ = some (s64 (x.dt.to i)) := by
 obtain ⟨A,T,hA,hE⟩ := ex_dt x q c []
 exact row_at fx hA (by rw [← hE,List.append_nil]) hi
theorem ct_row {X : World} (fx : ExH X b x q c) {i : Nat} (hi : i < 48) : X.cell? ⟨b,0 + 197 + 1 + i * 1,none⟩ = some (s64 (x.ct.to i)) := by
 obtain ⟨A,T,hA,hE⟩ := ex_ct x q c []
 exact row_at fx hA (by rw [← hE,List.append_nil]) hi
theorem rm_row {X : World} (fx : ExH X b x q c) {i : Nat} (hi : i < 48) : X.cell? ⟨b,0 + 246 + 1 + i * 1,none⟩ = some (s64 (x.rm.to i)) := by
 obtain ⟨A,T,hA,hE⟩ := ex_rm x q c []
 exact row_at fx hA (by rw [← hE,List.append_nil]) hi
theorem n64 {a b : Nat} (h : (!decide ((a : Int) = (b : Int))) = true) : ¬ a = b := fun e => by
 rw [e] at h
 simp at h
theorem y64 {a b : Nat} (h : (!decide ((a : Int) = (b : Int))) = false) : a = b := by
 have h : (a : Int) = (b : Int) := by simpa using h
 exact Int.ofNat.inj h
theorem n8 {a d : UInt8} (h : (!decide ((a.toNat : Int) = (d.toNat : Int))) = true) : ¬ a = d := fun e2 => by
 rw [e2] at h
 simp at h
theorem y8 {a d : UInt8} (h : (!decide ((a.toNat : Int) = (d.toNat : Int))) = false) : a = d := u8_eq.1 (by simpa using h)
def wrG (x : ExD) (k : Nat) : Nat := (List.range k).foldl (fun s i => if (evA x i).k = 2 then s ||| 2 ^ i else s) 0
theorem wrG_succ (x : ExD) (k : Nat) : wrG x (k + 1) = if (evA x k).k = 2 then wrG x k ||| 2 ^ k else wrG x k := by
 unfold wrG
 rw [List.range_succ,List.foldl_append]; rfl
theorem wrG_lt (x : ExD) : ∀ k,k ≤ 64 → wrG x k < 2 ^ 64
 | 0,_ => by show 0 < _; decide
 | k + 1,h => by
  rw [wrG_succ]
  split
  ·exact Nat.or_lt_two_pow (wrG_lt x k (by omega)) (pow_lt64 (by omega))
  ·exact wrG_lt x k (by omega)
theorem depRight_c (fx : ExH w b x q c) (hv : ExV w x q) (hrn : x.rm.n = x.ev.length) (hok : okR x.rm = true) (hT : Tz64M w) :
  Calls Tryz.prog 38 #[At0 b] w fun e w' => e = .returned (.bool (depRight x)) ∧ Below w.heap.size w w' := by
 refine calls_of_M (S := sg 130) (sgOk _) (args := [At0 b]) (.s .p (.s .p (.c .p .p))) Tryz.func38 rfl rfl (Nat.le_of_ble_eq_true rfl) rfl ?_
 have hn := hv.n
 obtain ⟨W,hW⟩ : ∃ W,W = wrMask x := ⟨_,rfl⟩
 have hWG : W = wrG x x.ev.length := by rw [hW]; rfl
 have hW64 : W < 2 ^ 64 := by rw [hWG]; exact wrG_lt x _ (by omega)
 refine ⟨Unit,fun _ => ⟨[(0,At0 b),(3,s64 W),(4,s64 0)],[]⟩,fun _ X => Below w.heap.size w X,?_,?_⟩
 ·refine ⟨_,cells_at (cells_block fx) (i := 0) rfl,?_⟩
  refine ⟨Nat,fun k => ⟨[(0,At0 b),(3,s64 (wrG x k)),(4,s64 0),(17,.slice q x.ev.length c),(18,i64 x.ev.length),(19,i64 (k : Nat))],[]⟩,fun k X => k ≤ x.ev.length ∧ Below w.heap.size w X,fun k => x.ev.length - k,0,
   ⟨.cons rfl (.cons rfl (.cons rfl (.cons rfl (.cons rfl (.cons rfl .nil))))),rfl⟩,⟨Nat.zero_le _,Below.refl _ _⟩,?_⟩
  rintro k X ⟨hk,hbX⟩
  dsimp only
  refine And.intro (fun hc => ?_) (fun hc => ?_)
  ·have hc : (k : Int) < (x.ev.length : Int) := of_decide_eq_true hc
   have hkl : k < x.ev.length := by omega
   obtain ⟨bq,oq,hqe,hb,hat⟩ := ev_enc (hv.ev.below hbX) hkl
   rw [evA_eq] at hat
   obtain ⟨e,he⟩ : ∃ e,e = evA x k := ⟨_,rfl⟩
   have hs := wrG_succ x k
   rw [← he] at hat hs
   subst hqe
   refine ⟨k,rfl,hkl,?_⟩
   refine ⟨evE.enc e,rfl,hat,hb,?_⟩
   refine store_new (X := X) (v := .agg (evE.enc e).toArray) (ttOk.get 52 _ rfl) rfl rfl (List.all_eq_true.2 fun u hu => evE.one e u hu) fun Y hbY fY sY => ?_
   have fY : Y.heap[X.heap.size]? = some (.cells (evE.enc e).toArray 52 (0,0)) := fY
   have hbY2 := hbX.trans (hbY.mono hbX.size)
   refine ⟨u8 e.k,cells_at (cells_block fY) (i := 1) rfl,?_⟩
   refine And.intro (fun h => ?_) (fun h => ?_)
   ·have h : e.k = 2 := u8_eq.1 (of_decide_eq_true h)
    rw [if_pos h] at hs
    refine ⟨by omega,((2 ^ k : Nat) : Int),w64_one (e := k) (by omega),?_⟩
    refine ⟨((wrG x k ||| 2 ^ k : Nat) : Int),w64_or (wrG_lt x k (by omega)) (pow_lt64 (by omega)),?_⟩
    refine ⟨((k + 1 : Nat) : Int),(wrap_i64 (by omega)).trans (by omega),?_⟩
    exact ⟨k + 1,⟨.cons rfl (.cons (by show _ = some (s64 (wrG x (k + 1))); rw [hs]; rfl) (.cons rfl (.cons rfl (.cons rfl (.cons rfl .nil))))),rfl⟩,⟨hkl,hbY2⟩,by show x.ev.length - (k + 1) < x.ev.length - k; omega⟩
   ·have h : ¬ e.k = 2 := fun e2 => (of_decide_eq_false h) (by rw [e2]; rfl)
    rw [if_neg h] at hs
    refine ⟨((k + 1 : Nat) : Int),(wrap_i64 (by omega)).trans (by omega),?_⟩
    exact ⟨k + 1,⟨.cons rfl (.cons (by show _ = some (s64 (wrG x (k + 1))); rw [hs]; rfl) (.cons rfl (.cons rfl (.cons rfl (.cons rfl .nil))))),rfl⟩,⟨hkl,hbY2⟩,by show x.ev.length - (k + 1) < x.ev.length - k; omega⟩
  ·have hc : ¬ (k : Int) < (x.ev.length : Int) := of_decide_eq_false hc
   obtain rfl : k = x.ev.length := by omega
   exact ⟨(),⟨.cons rfl (.cons (by show _ = some (s64 W); rw [hWG]; rfl) (.cons rfl .nil)),rfl⟩,hbX⟩
 rintro _ X hbX
 refine ⟨_,cells_at (cells_block (block_below hbX fx)) (i := 0) rfl,?_⟩
 have hdep : depRight x = depGo x W 0 x.ev 0 := by rw [hW]; rfl
 refine ⟨Nat × Nat,fun s => ⟨[(0,At0 b),(3,s64 W),(4,s64 s.2),(35,.slice q x.ev.length c),(36,i64 x.ev.length),(37,i64 (s.1 : Nat))],[]⟩,fun s X => s.1 ≤ x.ev.length ∧ depGo x W s.1 (x.ev.drop s.1) s.2 = depRight x ∧ s.2 < 2 ^ 64 ∧ Below w.heap.size w X,fun s => x.ev.length - s.1,(0,0),
  ⟨.cons rfl (.cons rfl (.cons rfl (.cons rfl (.cons rfl (.cons rfl .nil))))),rfl⟩,⟨Nat.zero_le _,hdep.symm,by decide,hbX⟩,?_⟩
 clear hbX
 rintro ⟨k,h⟩ X ⟨hk,hgo,hh,hbX⟩
 dsimp only at hk hgo hh ⊢
 refine And.intro (fun hc => ?_) (fun hc => ?_)
 ·have hc : (k : Int) < (x.ev.length : Int) := of_decide_eq_true hc
  have hkl : k < x.ev.length := by omega
  have hk48 : k < 48 := by omega
  obtain ⟨bq,oq,hqe,hb,hat⟩ := ev_enc (hv.ev.below hbX) hkl
  rw [evA_eq] at hat
  obtain ⟨e,he⟩ : ∃ e,e = evA x k := ⟨_,rfl⟩
  rw [← he] at hat
  have hdrp : x.ev.drop k = e :: x.ev.drop (k + 1) := by
   rw [← List.getElem_cons_drop hkl,he]
   unfold evA
   rw [List.getD_eq_getElem?_getD,List.getElem?_eq_getElem hkl]; rfl
  rw [hdrp] at hgo
  unfold depGo at hgo
  obtain ⟨d,hd⟩ : ∃ d,d = x.dt.to k := ⟨_,rfl⟩
  obtain ⟨t,ht⟩ : ∃ t,t = x.ct.to k := ⟨_,rfl⟩
  obtain ⟨r,hr⟩ : ∃ r,r = x.rm.to k := ⟨_,rfl⟩
  obtain ⟨po,hpo⟩ : ∃ po,po = x.po.to k := ⟨_,rfl⟩
  dsimp only at hgo
  rw [← hd,← ht,← hr,← hpo] at hgo
  have d64 : d < 2 ^ 64 := by rw [hd]; exact hv.dt k hk48
  have t64 : t < 2 ^ 64 := by rw [ht]; exact hv.ct k hk48
  have r64 : r < 2 ^ 64 := by rw [hr]; exact hv.rm k hk48
  have p64 : po < 2 ^ 64 := by rw [hpo]; exact hv.po k hk48
  have dt64 := Nat.or_lt_two_pow d64 t64
  have dtr64 := Nat.or_lt_two_pow dt64 r64
  have dr64 := Nat.or_lt_two_pow d64 r64
  subst hqe
  refine ⟨k,rfl,hkl,?_⟩
  refine ⟨evE.enc e,rfl,hat,hb,?_⟩
  refine store_new (X := X) (v := .agg (evE.enc e).toArray) (ttOk.get 52 _ rfl) rfl rfl (List.all_eq_true.2 fun u hu => evE.one e u hu) fun Y hbY fY sY => ?_
  have fY : Y.heap[X.heap.size]? = some (.cells (evE.enc e).toArray 52 (0,0)) := fY
  have hbY2 := hbX.trans (hbY.mono hbX.size)
  have dY : Below Y.heap.size Y Y.drew := (Below.refl _ _).drew
  have fxY := hdr (block_below hbY2 fx)
  have fYd := hdr fY
  have hbD := hbY2.trans (dY.mono hbY2.size)
  have no : ∀ {Z : World},Below w.heap.size w Z → depRight x = false → (Ending.returned (.bool false) = Ending.returned (.bool (depRight x)) ∧ Below w.heap.size w Z) := fun {Z} hb h => ⟨rb h.symm,hb⟩
  refine DrawE.ord [] [0,1,2,3,4,5,6,7,8,9,10,11,12,13,14,15,16,17,18,19,20,21,22,23] (by kernel_rfl) ?_
  refine ⟨k,rfl,hk48,?_⟩
  refine ⟨s64 d,by rw [hd]; exact dt_row fxY hk48,?_⟩
  refine ⟨k,rfl,hk48,?_⟩
  refine ⟨s64 t,by rw [ht]; exact ct_row fxY hk48,?_⟩
  refine ⟨k,rfl,hk48,?_⟩
  refine ⟨s64 r,by rw [hr]; exact rm_row fxY hk48,?_⟩
  refine ⟨_,w64_or d64 t64,?_⟩
  refine ⟨_,w64_or dt64 r64,?_⟩
  refine And.intro (fun h1 => ?_) (fun h1 => ?_)
  ·have h1 : d ||| t ||| r = 0 := Int.ofNat.inj (of_decide_eq_true h1)
   rw [if_pos h1] at hgo
   refine ⟨((k + 1 : Nat) : Int),(wrap_i64 (by omega)).trans (by omega),?_⟩
   exact ⟨(k + 1,h),⟨.cons rfl (.cons rfl (.cons rfl (.cons rfl (.cons rfl (.cons rfl .nil))))),rfl⟩,⟨hkl,hgo,hh,hbD⟩,by show x.ev.length - (k + 1) < x.ev.length - k; omega⟩
  have h1 : ¬ d ||| t ||| r = 0 := fun e2 => (of_decide_eq_false h1) (by rw [e2]; rfl)
  rw [if_neg h1] at hgo
  refine ⟨u8 e.k,cells_at (cells_block fYd) (i := 1) rfl,?_⟩
  refine And.intro (fun h2 => ?_) (fun h2 => ?_)
  ·have h2 : ¬ e.k = 1 := n8 (d := 1) h2
   rw [if_neg fun h => h2 h.1] at hgo
   refine brT ?_
   refine brT ?_
   exact no hbD hgo.symm
  have h2 : e.k = 1 := y8 (d := 1) h2
  refine ⟨_,w64_or d64 r64,?_⟩
  refine ⟨_,w64_less dr64 hW64,?_⟩
  refine And.intro (fun h3 => ?_) (fun h3 => ?_)
  ·have h3 : ¬ lessN (d ||| r) W = 0 := n64 (b := 0) h3
   rw [if_neg fun h => h3 h.2.1] at hgo
   refine brT ?_
   exact no hbD hgo.symm
  have h3 : lessN (d ||| r) W = 0 := y64 (b := 0) h3
  refine ⟨_,w64_or d64 t64,?_⟩
  refine ⟨_,w64_or dt64 r64,?_⟩
  refine ⟨k,rfl,hk48,?_⟩
  refine ⟨s64 po,by rw [hpo]; exact po_row fxY hk48,?_⟩
  refine ⟨_,w64_less dtr64 p64,?_⟩
  refine And.intro (fun h4 => ?_) (fun h4 => ?_)
  ·have h4 : ¬ lessN (d ||| t ||| r) po = 0 := n64 (b := 0) h4
   rw [if_neg fun h => h4 h.2.2] at hgo
   exact no hbD hgo.symm
  have h4 : lessN (d ||| t ||| r) po = 0 := y64 (b := 0) h4
  rw [if_pos ⟨h2,h3,h4⟩] at hgo
  refine Calls.mono (First_c r64 (hT.below hbD)) ?_
  rintro e2 Z ⟨rfl,hbZ⟩
  have hbZ2 := hbD.trans (hbZ.mono hbD.size)
  by_cases hr0 : r = 0
  ·have e1 : (els r).isEmpty = true := by rw [hr0]; rfl
   rw [e1]
   rw [if_pos hr0] at hgo
   refine brF ?_
   refine ⟨((k + 1 : Nat) : Int),(wrap_i64 (by omega)).trans (by omega),?_⟩
   exact ⟨(k + 1,h),⟨.cons rfl (.cons rfl (.cons rfl (.cons rfl (.cons rfl (.cons rfl .nil))))),rfl⟩,⟨hkl,hgo,hh,hbZ2⟩,by show x.ev.length - (k + 1) < x.ev.length - k; omega⟩
  rw [if_neg hr0] at hgo
  obtain ⟨hhd,hem⟩ := head_els hr0 r64
  rw [hhd,hem]
  have hmem := ctz_mem hr0 r64
  have hbit : r.testBit (ctz r) = true := (mem_els.1 hmem).2
  have hvl : ctz r < x.ev.length := by
   have := (okR_bit hok hv.rm hk48 (by rw [← hr]; exact hbit)).1
   rw [hrn] at this
   omega
  obtain ⟨v,hvd⟩ : ∃ v,v = ctz r := ⟨_,rfl⟩
  rw [← hvd] at hvl hgo ⊢
  refine brT ?_
  have fZ := block_below hbZ fYd
  have dZ : Below Z.heap.size Z Z.drew := (Below.refl _ _).drew
  have hbZ3 := hbZ2.trans (dZ.mono hbZ2.size)
  refine DrawE.ord [] [0,1,2,3,4,5,6,7,8,9,10,11,12,13,14,15,16,17,18,19,20,21,22,23] (by kernel_rfl) ?_
  refine ⟨by omega,((2 ^ v : Nat) : Int),w64_one (e := v) (by omega),?_⟩
  refine And.intro (fun h5 => ?_) (fun h5 => ?_)
  ·have h5 : ¬ r = 2 ^ v := n64 h5
   rw [if_neg fun h => h5 h.1] at hgo
   refine brT ?_
   refine brT ?_
   exact no hbZ3 hgo.symm
  have h5 : r = 2 ^ v := y64 h5
  refine ⟨by omega,_,w64_shr (a := h) (k := v) (by omega),?_⟩
  refine ⟨_,w64_and (a := h / 2 ^ v) (b := 1) (Nat.lt_of_le_of_lt (Nat.div_le_self _ _) hh) (by decide),?_⟩
  rw [bit_div]
  cases hb5 : h.testBit v with
  | true =>
   rw [if_neg fun h => (by rw [hb5] at h; cases h.2.1)] at hgo
   refine brT ?_
   refine brT ?_
   exact no hbZ3 hgo.symm
  | false =>
   refine brF ?_
   obtain ⟨bq2,oq2,hqe2,hb2,hat2⟩ := ev_enc (hv.ev.below hbZ3) hvl
   rw [evA_eq] at hat2
   obtain ⟨f,hf⟩ : ∃ f,f = evA x v := ⟨_,rfl⟩
   rw [← hf] at hat2 hgo
   refine ⟨_,cells_at (cells_block (block_below hbZ3 fx)) (i := 0) rfl,?_⟩
   refine ⟨v,rfl,hvl,?_⟩
   simp only [Option.some.injEq,Addr.mk.injEq,and_true] at hqe2
   rw [← hqe2.1,← hqe2.2] at hat2
   refine ⟨u8 f.l,by have := cells_at hat2 (i := 2) (v := u8 f.l) rfl; exact this,?_⟩
   refine ⟨u8 e.l,cells_at (cells_block (hdr fZ)) (i := 2) rfl,?_⟩
   refine And.intro (fun h6 => ?_) (fun h6 => ?_)
   ·have h6 : ¬ f.l = e.l := n8 h6
    rw [if_neg fun h => h6 h.2.2] at hgo
    exact no hbZ3 hgo.symm
   have h6 : f.l = e.l := y8 h6
   rw [if_pos ⟨h5,hb5,h6⟩] at hgo
   refine ⟨_,w64_or hh r64,?_⟩
   refine ⟨((k + 1 : Nat) : Int),(wrap_i64 (by omega)).trans (by omega),?_⟩
   exact ⟨(k + 1,h ||| r),⟨.cons rfl (.cons rfl (.cons rfl (.cons rfl (.cons rfl (.cons rfl .nil))))),rfl⟩,⟨hkl,hgo,Nat.or_lt_two_pow hh r64,hbZ3⟩,by show x.ev.length - (k + 1) < x.ev.length - k; omega⟩
 ·have hc : ¬ (k : Int) < (x.ev.length : Int) := of_decide_eq_false hc
  obtain rfl : k = x.ev.length := by omega
  rw [List.drop_length] at hgo
  exact ⟨rb hgo,hbX⟩
end
end Go.Proofs.YtkpcgpmimejimaaGreatDoor
