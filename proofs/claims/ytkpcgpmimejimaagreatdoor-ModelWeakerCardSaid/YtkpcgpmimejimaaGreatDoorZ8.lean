/- Contracts: law 10's examples. (Printed by tools/gen_aw10.py.). The law: a weaker model allows what a stronger one allows (ModelWeaker). Readings opened: the parts of any reading, and the sizes. Readings opened: relations, executions. The condition of a row gives what the walks need of a world; a world that meets it. -/
import Derived.Test.YtkpcgpmimejimaaGreatDoorZ7
import Derived.Test.YtkpcgpmimejimaaGreatDoorZ2
import Derived.Test.YtkpcgpmimejimaaGreatDoorRows
import Derived.ProofKit
import Derived.OpenShut
import Derived.LaidLaws
import Derived.Below
import Derived.HandedShaped
import Derived.KernelRfl
import Derived.WalkKit
import Derived.ChangeOld
import Derived.SevenTiedAt
import Derived.LaidHandle
import Derived.Stop.LaidErr
import Derived.Lib.LaidTab
import Derived.SizedLaws
import Derived.Test.YtkpcgpmimejimaaGreatDoorZ6
set_option linter.unusedSimpArgs false
set_option linter.unusedVariables false
namespace Go.Proofs.YtkpcgpmimejimaaGreatDoor
open Go.Vc Go.RowKit Go.Sei
structure FndV (X : World) (F : List ExD) (xs : List exE3) (q : Option Addr) : Prop where
 e : xs.map (·.1) = F
 row : SlR exE X q xs
 ev : ∀ x ∈ xs,SlR evE X x.2.1 x.1.ev
theorem FndV.below {X Y : World} {F : List ExD} {xs : List exE3} {q : Option Addr} (h : FndV X F xs q) (hb : Below X.heap.size X Y) : FndV Y F xs q := ⟨h.e,h.row.below hb,fun x hx => (h.ev x hx).below hb⟩
theorem wrdB_of {r : RelD} (h : wrdB r = true) : WrdR r.to := by
 unfold wrdB at h
 rw [List.all_eq_true] at h
 exact fun i hi => of_decide_eq_true (h i (List.mem_range.2 hi))
theorem exvB_of {X : World} {x : ExD} {q : Option Addr} (h : exvB x = true) (he : SlR evE X q x.ev) : ExV X x q := by
 unfold exvB at h
 simp only [Bool.and_eq_true,decide_eq_true_eq] at h
 obtain ⟨h1,h2,h3,h4,h5,h6,h7⟩ := h
 exact ⟨he,h1,wrdB_of h2,wrdB_of h3,wrdB_of h4,wrdB_of h5,wrdB_of h6,wrdB_of h7⟩
theorem FndV.at {X : World} {F : List ExD} {xs : List exE3} {q : Option Addr} {i n : Nat} {want : List UInt8} (h : FndV X F xs q) (hs : sayOne F i n want = true) (hi : i < n) : xs.length = n ∧ ∃ (b o : Nat) (y : exE3),q = some ⟨b,o,none⟩ ∧ b < X.heap.size ∧ Cells X ⟨b,o + i * 333,none⟩ (exC y.1 y.2.1 y.2.2) ∧ ExV X y.1 y.2.1 ∧ saysL y.1 want = true ∧ y.1 = F.getD i (ex0 0) := by
 unfold sayOne at hs
 rw [Bool.and_eq_true,Bool.and_eq_true,decide_eq_true_eq] at hs
 have hl : xs.length = n := by
  have := congrArg List.length h.e
  rw [List.length_map] at this
  omega
 have hix : i < xs.length := by omega
 obtain ⟨b,o,hq,hb,hat⟩ := h.row.at hix
 obtain ⟨y,hy⟩ : ∃ y,xs[i] = y := ⟨_,rfl⟩
 have hym : y ∈ xs := by rw [← hy]; exact List.getElem_mem hix
 have hF : y.1 = F.getD i (ex0 0) := by
  rw [← h.e,List.getD_eq_getElem?_getD,List.getElem?_map,List.getElem?_eq_getElem hix,hy]; rfl
 have hF2 : y.1 ∈ F := by
  rw [← h.e]
  exact List.mem_map_of_mem hym
 have hatk := hat i hix
 rw [hy] at hatk
 exact ⟨hl,b,o,y,hq,hb,hatk,exvB_of (List.all_eq_true.1 hs.2.1 _ hF2) (h.ev y hym),by rw [hF]; exact hs.2.2,hF⟩
theorem row_ins {W : World} {g : Nat} {cs : List Value} {l : List InsD} (h : W.heap[g]? = some (.cells cs.toArray 69 (0,0))) (hc : cs = l.flatMap insE.enc) : RowB insE W.heap.size W (some ⟨g,0,none⟩) l :=
 .inr ⟨g,0,rfl,hlt h,by rw [← hc]; exact cells_block h⟩
theorem aw10_c {w : World} (hG : GlobE w) : Calls Tryz.prog 6 #[] w fun e w' => e = .returned (.bool true) ∧ Below w.heap.size w w' := by
 refine calls_of_M (S := sg 98) (sgOk _) (args := []) (.s .p (.c .p (.c .p (.c .p (.c .p (.c .p (.c .p .p))))))) Tryz.func6 rfl rfl (Nat.le_of_ble_eq_true rfl) rfl ?_
 refine ⟨List exE3 × Option Addr × Nat,fun s => ⟨[(1,.slice s.2.1 s.1.length s.2.2)],[]⟩,fun s X => FndV X sbF s.1 s.2.1 ∧ Below w.heap.size w X,?_,?_⟩
 ·have b0 := (Below.refl w.heap.size w)
  refine Calls.mono (st_c (l := 0) (v := 1) (m := 0)) ?_
  rintro e V1 ⟨rfl,hv1⟩
  have b1 := b0.trans (hv1.mono b0.size)
  refine Calls.mono (ld_c (d := 0) (l := 1) (m := 0)) ?_
  rintro e V2 ⟨rfl,hv2⟩
  have b2 := b1.trans (hv2.mono b1.size)
  refine ⟨⟨by decide,by decide,rfl⟩,insE.enc (stI 0 1 0) ++ insE.enc (ldI 0 1 0),by kernel_rfl,?_⟩
  obtain ⟨V3,e3⟩ : ∃ V3,V3 = V2.alloc (.cells (insE.enc (stI 0 1 0) ++ insE.enc (ldI 0 1 0)).toArray 69) := ⟨_,rfl⟩
  have hv3 : Below V2.heap.size V2 V3 := by rw [e3]; exact (Below.refl _ _).alloc (Nat.le_refl _) _
  have f3 : V3.heap[V2.heap.size]? = some (.cells (insE.enc (stI 0 1 0) ++ insE.enc (ldI 0 1 0)).toArray 69 (0,0)) := by rw [e3]; exact hnew _ _
  rw [← e3]
  have b3 := b2.trans (hv3.mono b2.size)
  refine Calls.mono (st_c (l := 1) (v := 1) (m := 0)) ?_
  rintro e V4 ⟨rfl,hv4⟩
  have b4 := b3.trans (hv4.mono b3.size)
  refine Calls.mono (ld_c (d := 0) (l := 0) (m := 0)) ?_
  rintro e V5 ⟨rfl,hv5⟩
  have b5 := b4.trans (hv5.mono b4.size)
  refine ⟨⟨by decide,by decide,rfl⟩,insE.enc (stI 1 1 0) ++ insE.enc (ldI 0 0 0),by kernel_rfl,?_⟩
  obtain ⟨V6,e6⟩ : ∃ V6,V6 = V5.alloc (.cells (insE.enc (stI 1 1 0) ++ insE.enc (ldI 0 0 0)).toArray 69) := ⟨_,rfl⟩
  have hv6 : Below V5.heap.size V5 V6 := by rw [e6]; exact (Below.refl _ _).alloc (Nat.le_refl _) _
  have f6 : V6.heap[V5.heap.size]? = some (.cells (insE.enc (stI 1 1 0) ++ insE.enc (ldI 0 0 0)).toArray 69 (0,0)) := by rw [e6]; exact hnew _ _
  rw [← e6]
  have b6 := b5.trans (hv6.mono b5.size)
  refine Calls.mono (two_c (la := [stI 0 1 0,ldI 0 1 0]) (lb := [stI 1 1 0,ldI 0 0 0]) (row_ins (block_below hv6 (block_below hv5 (block_below hv4 (f3)))) (l := [stI 0 1 0,ldI 0 1 0]) rfl) (row_ins (f6) (l := [stI 1 1 0,ldI 0 0 0]) rfl) (Nat.le_of_ble_eq_true rfl) (Nat.le_of_ble_eq_true rfl) (fun a h => by cases h; exact hlt (block_below hv6 (block_below hv5 (block_below hv4 (f3))))) (fun a h => by cases h; exact hlt (f6))) ?_
  rintro e V7 ⟨⟨vs,rfl,hP⟩,hv7⟩
  have b7 := b6.trans (hv7.mono b6.size)
  refine Calls.mono (found_c (p := sbP) (n := 5) (V := [0,1]) (a := 0) (b := 0) (Nat.le_refl _) hP (hG.below b7) (candQ_of sb_q)) ?_
  rintro e V8 ⟨⟨xs,q,c,rfl,h1,h2,h3⟩,hv8⟩
  have b8 := b7.trans (hv8.mono b7.size)
  exact ⟨(xs,q,c),⟨.cons rfl .nil,rfl⟩,⟨h1,h2,h3⟩,b8⟩
 rintro s1 W1 ⟨g1,hb1⟩
 refine ⟨List exE3 × Option Addr × Nat,fun s => ⟨[(1,.slice s1.2.1 s1.1.length s1.2.2),(2,.slice s.2.1 s.1.length s.2.2)],[]⟩,fun s X => FndV X mpF s.1 s.2.1 ∧ FndV X sbF s1.1 s1.2.1 ∧ Below w.heap.size w X,?_,?_⟩
 ·have b0 := hb1
  refine Calls.mono (st_c (l := 0) (v := 1) (m := 0)) ?_
  rintro e V1 ⟨rfl,hv1⟩
  have b1 := b0.trans (hv1.mono b0.size)
  refine Calls.mono (st_c (l := 1) (v := 1) (m := 0)) ?_
  rintro e V2 ⟨rfl,hv2⟩
  have b2 := b1.trans (hv2.mono b1.size)
  refine ⟨⟨by decide,by decide,rfl⟩,insE.enc (stI 0 1 0) ++ insE.enc (stI 1 1 0),by kernel_rfl,?_⟩
  obtain ⟨V3,e3⟩ : ∃ V3,V3 = V2.alloc (.cells (insE.enc (stI 0 1 0) ++ insE.enc (stI 1 1 0)).toArray 69) := ⟨_,rfl⟩
  have hv3 : Below V2.heap.size V2 V3 := by rw [e3]; exact (Below.refl _ _).alloc (Nat.le_refl _) _
  have f3 : V3.heap[V2.heap.size]? = some (.cells (insE.enc (stI 0 1 0) ++ insE.enc (stI 1 1 0)).toArray 69 (0,0)) := by rw [e3]; exact hnew _ _
  rw [← e3]
  have b3 := b2.trans (hv3.mono b2.size)
  refine Calls.mono (ld_c (d := 1) (l := 1) (m := 0)) ?_
  rintro e V4 ⟨rfl,hv4⟩
  have b4 := b3.trans (hv4.mono b3.size)
  refine Calls.mono (ld_c (d := 0) (l := 0) (m := 0)) ?_
  rintro e V5 ⟨rfl,hv5⟩
  have b5 := b4.trans (hv5.mono b4.size)
  refine ⟨⟨by decide,by decide,rfl⟩,insE.enc (ldI 1 1 0) ++ insE.enc (ldI 0 0 0),by kernel_rfl,?_⟩
  obtain ⟨V6,e6⟩ : ∃ V6,V6 = V5.alloc (.cells (insE.enc (ldI 1 1 0) ++ insE.enc (ldI 0 0 0)).toArray 69) := ⟨_,rfl⟩
  have hv6 : Below V5.heap.size V5 V6 := by rw [e6]; exact (Below.refl _ _).alloc (Nat.le_refl _) _
  have f6 : V6.heap[V5.heap.size]? = some (.cells (insE.enc (ldI 1 1 0) ++ insE.enc (ldI 0 0 0)).toArray 69 (0,0)) := by rw [e6]; exact hnew _ _
  rw [← e6]
  have b6 := b5.trans (hv6.mono b5.size)
  refine Calls.mono (two_c (la := [stI 0 1 0,stI 1 1 0]) (lb := [ldI 1 1 0,ldI 0 0 0]) (row_ins (block_below hv6 (block_below hv5 (block_below hv4 (f3)))) (l := [stI 0 1 0,stI 1 1 0]) rfl) (row_ins (f6) (l := [ldI 1 1 0,ldI 0 0 0]) rfl) (Nat.le_of_ble_eq_true rfl) (Nat.le_of_ble_eq_true rfl) (fun a h => by cases h; exact hlt (block_below hv6 (block_below hv5 (block_below hv4 (f3))))) (fun a h => by cases h; exact hlt (f6))) ?_
  rintro e V7 ⟨⟨vs,rfl,hP⟩,hv7⟩
  have b7 := b6.trans (hv7.mono b6.size)
  refine Calls.mono (found_c (p := mpP) (n := 5) (V := [0,1]) (a := 0) (b := 0) (Nat.le_refl _) hP (hG.below b7) (candQ_of mp_q)) ?_
  rintro e V8 ⟨⟨xs,q,c,rfl,h1,h2,h3⟩,hv8⟩
  have b8 := b7.trans (hv8.mono b7.size)
  have bt : Below W1.heap.size W1 V8 := by
   have c1 := hv1
   have c2 := c1.trans (hv2.mono c1.size)
   have c3 := c2.trans (hv3.mono c2.size)
   have c4 := c3.trans (hv4.mono c3.size)
   have c5 := c4.trans (hv5.mono c4.size)
   have c6 := c5.trans (hv6.mono c5.size)
   have c7 := c6.trans (hv7.mono c6.size)
   have c8 := c7.trans (hv8.mono c7.size)
   exact c8
  exact ⟨(xs,q,c),⟨.cons rfl (.cons rfl .nil),rfl⟩,⟨h1,h2,h3⟩,g1.below bt,b8⟩
 rintro s2 W2 ⟨g2,g1,hb2⟩
 refine ⟨List exE3 × Option Addr × Nat,fun s => ⟨[(1,.slice s1.2.1 s1.1.length s1.2.2),(2,.slice s2.2.1 s2.1.length s2.2.2),(3,.slice s.2.1 s.1.length s.2.2)],[]⟩,fun s X => FndV X raF s.1 s.2.1 ∧ FndV X sbF s1.1 s1.2.1 ∧ FndV X mpF s2.1 s2.2.1 ∧ Below w.heap.size w X,?_,?_⟩
 ·have b0 := hb2
  refine Calls.mono (st_c (l := 0) (v := 1) (m := 0)) ?_
  rintro e V1 ⟨rfl,hv1⟩
  have b1 := b0.trans (hv1.mono b0.size)
  refine Calls.mono (st_c (l := 1) (v := 1) (m := 2)) ?_
  rintro e V2 ⟨rfl,hv2⟩
  have b2 := b1.trans (hv2.mono b1.size)
  refine ⟨⟨by decide,by decide,rfl⟩,insE.enc (stI 0 1 0) ++ insE.enc (stI 1 1 2),by kernel_rfl,?_⟩
  obtain ⟨V3,e3⟩ : ∃ V3,V3 = V2.alloc (.cells (insE.enc (stI 0 1 0) ++ insE.enc (stI 1 1 2)).toArray 69) := ⟨_,rfl⟩
  have hv3 : Below V2.heap.size V2 V3 := by rw [e3]; exact (Below.refl _ _).alloc (Nat.le_refl _) _
  have f3 : V3.heap[V2.heap.size]? = some (.cells (insE.enc (stI 0 1 0) ++ insE.enc (stI 1 1 2)).toArray 69 (0,0)) := by rw [e3]; exact hnew _ _
  rw [← e3]
  have b3 := b2.trans (hv3.mono b2.size)
  refine Calls.mono (ld_c (d := 1) (l := 1) (m := 1)) ?_
  rintro e V4 ⟨rfl,hv4⟩
  have b4 := b3.trans (hv4.mono b3.size)
  refine Calls.mono (ld_c (d := 0) (l := 0) (m := 0)) ?_
  rintro e V5 ⟨rfl,hv5⟩
  have b5 := b4.trans (hv5.mono b4.size)
  refine ⟨⟨by decide,by decide,rfl⟩,insE.enc (ldI 1 1 1) ++ insE.enc (ldI 0 0 0),by kernel_rfl,?_⟩
  obtain ⟨V6,e6⟩ : ∃ V6,V6 = V5.alloc (.cells (insE.enc (ldI 1 1 1) ++ insE.enc (ldI 0 0 0)).toArray 69) := ⟨_,rfl⟩
  have hv6 : Below V5.heap.size V5 V6 := by rw [e6]; exact (Below.refl _ _).alloc (Nat.le_refl _) _
  have f6 : V6.heap[V5.heap.size]? = some (.cells (insE.enc (ldI 1 1 1) ++ insE.enc (ldI 0 0 0)).toArray 69 (0,0)) := by rw [e6]; exact hnew _ _
  rw [← e6]
  have b6 := b5.trans (hv6.mono b5.size)
  refine Calls.mono (two_c (la := [stI 0 1 0,stI 1 1 2]) (lb := [ldI 1 1 1,ldI 0 0 0]) (row_ins (block_below hv6 (block_below hv5 (block_below hv4 (f3)))) (l := [stI 0 1 0,stI 1 1 2]) rfl) (row_ins (f6) (l := [ldI 1 1 1,ldI 0 0 0]) rfl) (Nat.le_of_ble_eq_true rfl) (Nat.le_of_ble_eq_true rfl) (fun a h => by cases h; exact hlt (block_below hv6 (block_below hv5 (block_below hv4 (f3))))) (fun a h => by cases h; exact hlt (f6))) ?_
  rintro e V7 ⟨⟨vs,rfl,hP⟩,hv7⟩
  have b7 := b6.trans (hv7.mono b6.size)
  refine Calls.mono (found_c (p := raP) (n := 5) (V := [0,1]) (a := 0) (b := 0) (Nat.le_refl _) hP (hG.below b7) (candQ_of ra_q)) ?_
  rintro e V8 ⟨⟨xs,q,c,rfl,h1,h2,h3⟩,hv8⟩
  have b8 := b7.trans (hv8.mono b7.size)
  have bt : Below W2.heap.size W2 V8 := by
   have c1 := hv1
   have c2 := c1.trans (hv2.mono c1.size)
   have c3 := c2.trans (hv3.mono c2.size)
   have c4 := c3.trans (hv4.mono c3.size)
   have c5 := c4.trans (hv5.mono c4.size)
   have c6 := c5.trans (hv6.mono c5.size)
   have c7 := c6.trans (hv7.mono c6.size)
   have c8 := c7.trans (hv8.mono c7.size)
   exact c8
  exact ⟨(xs,q,c),⟨.cons rfl (.cons rfl (.cons rfl .nil)),rfl⟩,⟨h1,h2,h3⟩,g1.below bt,g2.below bt,b8⟩
 rintro s3 W3 ⟨g3,g1,g2,hb3⟩
 refine ⟨List exE3 × Option Addr × Nat,fun s => ⟨[(1,.slice s1.2.1 s1.1.length s1.2.2),(2,.slice s2.2.1 s2.1.length s2.2.2),(3,.slice s3.2.1 s3.1.length s3.2.2),(4,.slice s.2.1 s.1.length s.2.2)],[]⟩,fun s X => FndV X coF s.1 s.2.1 ∧ FndV X sbF s1.1 s1.2.1 ∧ FndV X mpF s2.1 s2.2.1 ∧ FndV X raF s3.1 s3.2.1 ∧ Below w.heap.size w X,?_,?_⟩
 ·have b0 := hb3
  refine Calls.mono (st_c (l := 0) (v := 1) (m := 0)) ?_
  rintro e V1 ⟨rfl,hv1⟩
  have b1 := b0.trans (hv1.mono b0.size)
  refine Calls.mono (ld_c (d := 0) (l := 0) (m := 0)) ?_
  rintro e V2 ⟨rfl,hv2⟩
  have b2 := b1.trans (hv2.mono b1.size)
  refine ⟨⟨by decide,by decide,rfl⟩,insE.enc (stI 0 1 0) ++ insE.enc (ldI 0 0 0),by kernel_rfl,?_⟩
  obtain ⟨V3,e3⟩ : ∃ V3,V3 = V2.alloc (.cells (insE.enc (stI 0 1 0) ++ insE.enc (ldI 0 0 0)).toArray 69) := ⟨_,rfl⟩
  have hv3 : Below V2.heap.size V2 V3 := by rw [e3]; exact (Below.refl _ _).alloc (Nat.le_refl _) _
  have f3 : V3.heap[V2.heap.size]? = some (.cells (insE.enc (stI 0 1 0) ++ insE.enc (ldI 0 0 0)).toArray 69 (0,0)) := by rw [e3]; exact hnew _ _
  rw [← e3]
  have b3 := b2.trans (hv3.mono b2.size)
  refine Calls.mono (two_c (la := [stI 0 1 0,ldI 0 0 0]) (lb := []) (row_ins (f3) (l := [stI 0 1 0,ldI 0 0 0]) rfl) (.inl rfl) (Nat.le_of_ble_eq_true rfl) (Nat.le_of_ble_eq_true rfl) (fun a h => by cases h; exact hlt (f3)) (fun a h => by cases h)) ?_
  rintro e V4 ⟨⟨vs,rfl,hP⟩,hv4⟩
  have b4 := b3.trans (hv4.mono b3.size)
  refine Calls.mono (found_c (p := coP) (n := 5) (V := [0,1]) (a := 0) (b := 0) (Nat.le_refl _) hP (hG.below b4) (candQ_of co_q)) ?_
  rintro e V5 ⟨⟨xs,q,c,rfl,h1,h2,h3⟩,hv5⟩
  have b5 := b4.trans (hv5.mono b4.size)
  have bt : Below W3.heap.size W3 V5 := by
   have c1 := hv1
   have c2 := c1.trans (hv2.mono c1.size)
   have c3 := c2.trans (hv3.mono c2.size)
   have c4 := c3.trans (hv4.mono c3.size)
   have c5 := c4.trans (hv5.mono c4.size)
   exact c5
  exact ⟨(xs,q,c),⟨.cons rfl (.cons rfl (.cons rfl (.cons rfl .nil))),rfl⟩,⟨h1,h2,h3⟩,g1.below bt,g2.below bt,g3.below bt,b5⟩
 rintro s4 W4 ⟨g4,g1,g2,g3,hb4⟩
 obtain ⟨l1,n1,o1,y1,q1,d1,at1,v1,say1,_⟩ := g1.at sb_says (by decide)
 obtain ⟨l2,n2,o2,y2,q2,d2,at2,v2,say2,r2⟩ := g2.at mp_says (by decide)
 obtain ⟨l3,n3,o3,y3,q3,d3,at3,v3,say3,r3⟩ := g3.at ra_says (by decide)
 obtain ⟨l4,n4,o4,y4,q4,d4,at4,v4,say4,_⟩ := g4.at co_says (by decide)
 have hTW := hG.t64.below hb4
 have rg2 : y2.1.regs 9 = 1 := by rw [r2]; exact mp_reg
 have rg3 : y3.1.regs 9 = 1 := by rw [r3]; exact ra_reg
 have i2 : 1 < s2.1.length := by omega
 have i3 : 1 < s3.1.length := by omega
 have i1 : 0 < s1.1.length := by omega
 have i4 : 0 < s4.1.length := by omega
 obtain ⟨xs1,p1,c1⟩ := s1
 obtain ⟨xs2,p2,c2⟩ := s2
 obtain ⟨xs3,p3,c3⟩ := s3
 obtain ⟨xs4,p4,c4⟩ := s4
 dsimp only at l1 l2 l3 l4 i1 i2 i3 i4 q1 q2 q3 q4 ⊢
 subst q1 q2 q3 q4
 have no : ∀ {n m : Nat},n = m → (!decide ((n : Int) = (m : Int))) = false := fun {n m} h => by rw [h,decide_eq_true rfl]; rfl
 refine ⟨Unit,fun _ => ⟨[(1,.slice (some ⟨n1,o1,none⟩) xs1.length c1),(2,.slice (some ⟨n2,o2,none⟩) xs2.length c2),(3,.slice (some ⟨n3,o3,none⟩) xs3.length c3),(4,.slice (some ⟨n4,o4,none⟩) xs4.length c4)],[]⟩,fun _ X => W4 = X,?_,?_⟩
 ·refine brN (no (m := 1) l1) ?_
  refine brN (no (m := 2) l2) ?_
  refine brN (no (m := 2) l3) ?_
  refine brN (no (m := 1) l4) ?_
  exact ⟨(),⟨.cons rfl (.cons rfl (.cons rfl (.cons rfl .nil))),rfl⟩,rfl⟩
 rintro _ _ rfl
 obtain ⟨X0,hX0⟩ : ∃ X0 : Value,X0 = .agg (zt34).toArray := ⟨_,rfl⟩
 refine ⟨Nat × Nat,fun s => ⟨[(1,.slice (some ⟨n1,o1,none⟩) xs1.length c1),(4,.slice (some ⟨n4,o4,none⟩) xs4.length c4),(5,At0 s.1),(6,At0 s.2)],[]⟩,fun s X => ExH X s.1 y2.1 y2.2.1 y2.2.2 ∧ ExH X s.2 y3.1 y3.2.1 y3.2.2 ∧ Below W4.heap.size W4 X,?_,?_⟩
 ·have dW : Below W4.heap.size W4 W4.drew := (Below.refl _ _).drew
  have zex : Obj.cells (zt34).toArray 34 = Obj.cells (zt34).toArray 34 := rfl
  have two : ∀ {W : World},Below W4.heap.size W4 W → Below W4.heap.size W4 ((W.alloc (.cells (zt34).toArray 34)).alloc (.cells (zt34).toArray 34)) ∧ ((W.alloc (.cells (zt34).toArray 34)).alloc (.cells (zt34).toArray 34)).heap[W.heap.size]? = some (.cells (zt34).toArray 34 (0,0)) ∧ ((W.alloc (.cells (zt34).toArray 34)).alloc (.cells (zt34).toArray 34)).heap[(W.alloc (.cells (zt34).toArray 34)).heap.size]? = some (.cells (zt34).toArray 34 (0,0)) ∧ W.heap.size < (W.alloc (.cells (zt34).toArray 34)).heap.size := fun {W} hW => by
   have b1 := hW.alloc hW.size (.cells (zt34).toArray 34)
   exact ⟨b1.alloc b1.size _,hold _ (hnew W _),hnew _ _,by rw [World.size_alloc]; omega⟩
  have s8 : ∀ {W : World} {bx bv : Nat},Below W4.heap.size W4 W → W.heap[bx]? = some (.cells (zt34).toArray 34 (0,0)) → W.heap[bv]? = some (.cells (zt34).toArray 34 (0,0)) → bx ≠ bv → W4.heap.size ≤ bx → ∀ {K : World → Prop},(∀ D,(Below W4.heap.size W4 D ∧ ExH D bx y2.1 y2.2.1 y2.2.2 ∧ D.heap[bv]? = some (.cells (zt34).toArray 34 (0,0))) → K D) → SatR ((storeVar 34 ⟨bx,0,none⟩ (.agg (exC y2.1 y2.2.1 y2.2.2).toArray)).run Tryz.prog W) fun _ w' => K w' := fun {W bx bv} hW fx fy hne hx {K} k =>
   store_box (v := .agg (exC y2.1 y2.2.1 y2.2.2).toArray) (ttOk.get 34 _ rfl) fx (exC_len _ _ _) ztex_len (exC_one _ _ _) (k _ ⟨below_setRow hW hx _,setRow_new fx,(setRow_old (fun e => hne e.symm)).trans fy⟩)
  have s9 : ∀ {W : World} {bx bv : Nat},(Below W4.heap.size W4 W ∧ ExH W bx y2.1 y2.2.1 y2.2.2 ∧ W.heap[bv]? = some (.cells (zt34).toArray 34 (0,0))) → bx ≠ bv → W4.heap.size ≤ bv → ∀ {K : World → Prop},(∀ D,(ExH D bx y2.1 y2.2.1 y2.2.2 ∧ ExH D bv y3.1 y3.2.1 y3.2.2 ∧ Below W4.heap.size W4 D) → K D) → SatR ((storeVar 34 ⟨bv,0,none⟩ (.agg (exC y3.1 y3.2.1 y3.2.2).toArray)).run Tryz.prog W) fun _ w' => K w' := fun {W bx bv} h hne hx {K} k =>
   store_box (v := .agg (exC y3.1 y3.2.1 y3.2.2).toArray) (ttOk.get 34 _ rfl) h.2.2 (exC_len _ _ _) ztex_len (exC_one _ _ _) (k _ ⟨(setRow_old hne).trans h.2.1,setRow_new h.2.2,below_setRow h.1 hx _⟩)
  have hba : ∀ (A : World) (o : Obj),Below A.heap.size A (A.alloc o) := fun A o => (Below.refl _ _).alloc (Nat.le_refl _) _
  refine DrawE.treeR [8,9] (.op 0 (.op 1 (.op 2 (.op 3 (.op 4 (.alt (.op 6 (.alt (.op 7 (.alt (.op 8 (.op 5 (.op 9 .nil))) (.op 5 (.op 8 (.op 9 .nil))))) (.op 5 (.op 7 (.op 8 (.op 9 .nil)))))) (.alt (.op 7 (.alt (.op 6 (.alt (.op 8 (.op 5 (.op 9 .nil))) (.op 5 (.op 8 (.op 9 .nil))))) (.op 5 (.op 6 (.op 8 (.op 9 .nil)))))) (.op 5 (.alt (.op 6 (.op 7 (.op 8 (.op 9 .nil)))) (.op 7 (.op 6 (.op 8 (.op 9 .nil))))))))))))) (by kernel_rfl) ?_
  refine ⟨1,rfl,i2,?_⟩
  refine ⟨exC y2.1 y2.2.1 y2.2.2,exC_len _ _ _,cells_belowB dW d2 at2,d2,?_⟩
  refine ⟨1,rfl,i3,?_⟩
  obtain ⟨U,hU⟩ : ∃ U,U = W4.drew := ⟨_,rfl⟩
  have bU : Below W4.heap.size W4 U := by rw [hU]; exact dW
  obtain ⟨t1,t2,t3,t4⟩ := two bU
  have sU := bU.size
  rw [← hU]
  refine And.intro ?_ ?_
  ·refine ⟨hba _ _,?_⟩
   refine And.intro ?_ ?_
   ·refine ⟨hba _ _,?_⟩
    refine And.intro ?_ ?_
    ·refine s8 t1 t2 t3 (by omega) (by omega) fun D hD => ?_
     refine ⟨exC y3.1 y3.2.1 y3.2.2,exC_len _ _ _,cells_belowB hD.1 d3 at3,Nat.lt_of_lt_of_le d3 (Below.size hD.1),?_⟩
     refine s9 hD (by omega) (by omega) fun F hF => ?_
     exact ⟨(_,_),⟨.cons rfl (.cons rfl (.cons rfl (.cons rfl .nil))),rfl⟩,hF⟩
    ·refine ⟨exC y3.1 y3.2.1 y3.2.2,exC_len _ _ _,cells_belowB t1 d3 at3,Nat.lt_of_lt_of_le d3 (Below.size t1),?_⟩
     refine s8 t1 t2 t3 (by omega) (by omega) fun D hD => ?_
     refine s9 hD (by omega) (by omega) fun F hF => ?_
     exact ⟨(_,_),⟨.cons rfl (.cons rfl (.cons rfl (.cons rfl .nil))),rfl⟩,hF⟩
   ·refine ⟨exC y3.1 y3.2.1 y3.2.2,exC_len _ _ _,cells_belowB (bU.alloc sU _) d3 at3,Nat.lt_of_lt_of_le d3 (Below.size (bU.alloc sU _)),?_⟩
    refine ⟨hba _ _,?_⟩
    refine s8 t1 t2 t3 (by omega) (by omega) fun D hD => ?_
    refine s9 hD (by omega) (by omega) fun F hF => ?_
    exact ⟨(_,_),⟨.cons rfl (.cons rfl (.cons rfl (.cons rfl .nil))),rfl⟩,hF⟩
  ·refine And.intro ?_ ?_
   ·refine ⟨hba _ _,?_⟩
    refine And.intro ?_ ?_
    ·refine ⟨hba _ _,?_⟩
     refine And.intro ?_ ?_
     ·refine s8 t1 t3 t2 (by omega) (by omega) fun D hD => ?_
      refine ⟨exC y3.1 y3.2.1 y3.2.2,exC_len _ _ _,cells_belowB hD.1 d3 at3,Nat.lt_of_lt_of_le d3 (Below.size hD.1),?_⟩
      refine s9 hD (by omega) (by omega) fun F hF => ?_
      exact ⟨(_,_),⟨.cons rfl (.cons rfl (.cons rfl (.cons rfl .nil))),rfl⟩,hF⟩
     ·refine ⟨exC y3.1 y3.2.1 y3.2.2,exC_len _ _ _,cells_belowB t1 d3 at3,Nat.lt_of_lt_of_le d3 (Below.size t1),?_⟩
      refine s8 t1 t3 t2 (by omega) (by omega) fun D hD => ?_
      refine s9 hD (by omega) (by omega) fun F hF => ?_
      exact ⟨(_,_),⟨.cons rfl (.cons rfl (.cons rfl (.cons rfl .nil))),rfl⟩,hF⟩
    ·refine ⟨exC y3.1 y3.2.1 y3.2.2,exC_len _ _ _,cells_belowB (bU.alloc sU _) d3 at3,Nat.lt_of_lt_of_le d3 (Below.size (bU.alloc sU _)),?_⟩
     refine ⟨hba _ _,?_⟩
     refine s8 t1 t3 t2 (by omega) (by omega) fun D hD => ?_
     refine s9 hD (by omega) (by omega) fun F hF => ?_
     exact ⟨(_,_),⟨.cons rfl (.cons rfl (.cons rfl (.cons rfl .nil))),rfl⟩,hF⟩
   ·refine ⟨exC y3.1 y3.2.1 y3.2.2,exC_len _ _ _,cells_belowB bU d3 at3,Nat.lt_of_lt_of_le d3 (Below.size bU),?_⟩
    refine And.intro ?_ ?_
    ·refine ⟨hba _ _,?_⟩
     refine ⟨hba _ _,?_⟩
     refine s8 t1 t2 t3 (by omega) (by omega) fun D hD => ?_
     refine s9 hD (by omega) (by omega) fun F hF => ?_
     exact ⟨(_,_),⟨.cons rfl (.cons rfl (.cons rfl (.cons rfl .nil))),rfl⟩,hF⟩
    ·refine ⟨hba _ _,?_⟩
     refine ⟨hba _ _,?_⟩
     refine s8 t1 t3 t2 (by omega) (by omega) fun D hD => ?_
     refine s9 hD (by omega) (by omega) fun F hF => ?_
     exact ⟨(_,_),⟨.cons rfl (.cons rfl (.cons rfl (.cons rfl .nil))),rfl⟩,hF⟩
 rintro ⟨bx,bv⟩ X ⟨fx,fv,hbX⟩
 dsimp only at fx fv ⊢
 have bw := hb4.trans (hbX.mono hb4.size)
 have ex9 : (exC y2.1 y2.2.1 y2.2.2)[304]? = some (u8 (y2.1.regs 9)) := exC_reg y2.1 y2.2.1 y2.2.2 (i := 9) (by decide)
 have ev9 : (exC y3.1 y3.2.1 y3.2.2)[304]? = some (u8 (y3.1.regs 9)) := exC_reg y3.1 y3.2.1 y3.2.2 (i := 9) (by decide)
 have one : ∀ {r : UInt8},r = 1 → decide ((r.toNat : Int) = 1) = true := fun h => by rw [h]; rfl
 refine ⟨1,rfl,by decide,?_⟩
 refine ⟨1,rfl,by decide,?_⟩
 refine ⟨u8 (y2.1.regs 9),cells_at (cells_block fx) ex9,?_⟩
 refine brE (one rg2) ?_
 refine ⟨1,rfl,by decide,?_⟩
 refine ⟨1,rfl,by decide,?_⟩
 refine ⟨u8 (y3.1.regs 9),cells_at (cells_block fv) ev9,?_⟩
 refine brE (one rg3) ?_
 refine ⟨0,rfl,i1,?_⟩
 refine ⟨exC y1.1 y1.2.1 y1.2.2,exC_len _ _ _,cells_belowB hbX d1 at1,Nat.lt_of_lt_of_le d1 (Below.size hbX),?_⟩
 refine ⟨⟨by decide,by decide,rfl⟩,[u8 0,u8 3,u8 0,u8 0,u8 0,u8 0],rfl,?_⟩
 obtain ⟨T0,eT0⟩ : ∃ T,T = X.alloc (.cells ([u8 0,u8 3,u8 0,u8 0,u8 0,u8 0] : List Value).toArray 5) := ⟨_,rfl⟩
 have ba0 : Below X.heap.size X T0 := by rw [eT0]; exact (Below.refl _ _).alloc (Nat.le_refl _) _
 have fa0 : T0.heap[X.heap.size]? = some (.cells ([u8 0,u8 3,u8 0,u8 0,u8 0,u8 0] : List Value).toArray 5 (0,0)) := by rw [eT0]; exact hnew _ _
 rw [← eT0]
 have bt0 := hbX.trans (ba0.mono hbX.size)
 refine Calls.mono (says_c (ws := [0,3,0,0,0,0]) (v1.below bt0) (hTW.below bt0) (SlR.of_cells (hlt fa0) (by exact cells_block fa0)) say1 (by decide)) ?_
 rintro e Z1 ⟨rfl,hz1⟩
 have bz1 := bt0.trans (hz1.mono bt0.size)
 have k1 := ba0.trans (hz1.mono ba0.size)
 refine brT ?_
 refine ⟨exC y2.1 y2.2.1 y2.2.2,exC_len _ _ _,cells_block (block_below k1 fx),hlt (block_below k1 fx),?_⟩
 refine ⟨⟨by decide,by decide,rfl⟩,[u8 0,u8 3,u8 3,u8 0,u8 0,u8 0],rfl,?_⟩
 obtain ⟨T1,eT1⟩ : ∃ T,T = Z1.alloc (.cells ([u8 0,u8 3,u8 3,u8 0,u8 0,u8 0] : List Value).toArray 5) := ⟨_,rfl⟩
 have ba1 : Below Z1.heap.size Z1 T1 := by rw [eT1]; exact (Below.refl _ _).alloc (Nat.le_refl _) _
 have fa1 : T1.heap[Z1.heap.size]? = some (.cells ([u8 0,u8 3,u8 3,u8 0,u8 0,u8 0] : List Value).toArray 5 (0,0)) := by rw [eT1]; exact hnew _ _
 rw [← eT1]
 have bt1 := bz1.trans (ba1.mono bz1.size)
 refine Calls.mono (says_c (ws := [0,3,3,0,0,0]) (v2.below bt1) (hTW.below bt1) (SlR.of_cells (hlt fa1) (by exact cells_block fa1)) say2 (by decide)) ?_
 rintro e Z2 ⟨rfl,hz2⟩
 have bz2 := bt1.trans (hz2.mono bt1.size)
 have k2 := (k1.trans (ba1.mono k1.size)).trans (hz2.mono (by have := k1.size; have := ba1.size; omega))
 refine brT ?_
 refine ⟨exC y3.1 y3.2.1 y3.2.2,exC_len _ _ _,cells_block (block_below k2 fv),hlt (block_below k2 fv),?_⟩
 refine ⟨⟨by decide,by decide,rfl⟩,[u8 0,u8 3,u8 3,u8 0,u8 3,u8 0],rfl,?_⟩
 obtain ⟨T2,eT2⟩ : ∃ T,T = Z2.alloc (.cells ([u8 0,u8 3,u8 3,u8 0,u8 3,u8 0] : List Value).toArray 5) := ⟨_,rfl⟩
 have ba2 : Below Z2.heap.size Z2 T2 := by rw [eT2]; exact (Below.refl _ _).alloc (Nat.le_refl _) _
 have fa2 : T2.heap[Z2.heap.size]? = some (.cells ([u8 0,u8 3,u8 3,u8 0,u8 3,u8 0] : List Value).toArray 5 (0,0)) := by rw [eT2]; exact hnew _ _
 rw [← eT2]
 have bt2 := bz2.trans (ba2.mono bz2.size)
 refine Calls.mono (says_c (ws := [0,3,3,0,3,0]) (v3.below bt2) (hTW.below bt2) (SlR.of_cells (hlt fa2) (by exact cells_block fa2)) say3 (by decide)) ?_
 rintro e Z3 ⟨rfl,hz3⟩
 have bz3 := bt2.trans (hz3.mono bt2.size)
 have k3 := (k2.trans (ba2.mono k2.size)).trans (hz3.mono (by have := k2.size; have := ba2.size; omega))
 refine brT ?_
 refine ⟨0,rfl,i4,?_⟩
 refine ⟨exC y4.1 y4.2.1 y4.2.2,exC_len _ _ _,cells_belowB bz3 d4 at4,Nat.lt_of_lt_of_le d4 (Below.size bz3),?_⟩
 refine ⟨⟨by decide,by decide,rfl⟩,[u8 1,u8 1,u8 1,u8 1,u8 1,u8 1],rfl,?_⟩
 obtain ⟨T3,eT3⟩ : ∃ T,T = Z3.alloc (.cells ([u8 1,u8 1,u8 1,u8 1,u8 1,u8 1] : List Value).toArray 5) := ⟨_,rfl⟩
 have ba3 : Below Z3.heap.size Z3 T3 := by rw [eT3]; exact (Below.refl _ _).alloc (Nat.le_refl _) _
 have fa3 : T3.heap[Z3.heap.size]? = some (.cells ([u8 1,u8 1,u8 1,u8 1,u8 1,u8 1] : List Value).toArray 5 (0,0)) := by rw [eT3]; exact hnew _ _
 rw [← eT3]
 have bt3 := bz3.trans (ba3.mono bz3.size)
 refine Calls.mono (says_c (ws := [1,1,1,1,1,1]) (v4.below bt3) (hTW.below bt3) (SlR.of_cells (hlt fa3) (by exact cells_block fa3)) say4 (by decide)) ?_
 rintro e Z4 ⟨rfl,hz4⟩
 have bz4 := bt3.trans (hz4.mono bt3.size)
 have k4 := (k3.trans (ba3.mono k3.size)).trans (hz4.mono (by have := k3.size; have := ba3.size; omega))
 exact ⟨rfl,hb4.trans (bz4.mono hb4.size)⟩
end Go.Proofs.YtkpcgpmimejimaaGreatDoor
namespace Go.Proofs.YtkpcgpmimejimaaGreatDoor
open Go.Vc Go.RowKit Go.Sei
def pairs8 : List (UInt8 × UInt8) := [(2,3),(3,4),(4,6),(2,5),(6,1),(5,1)]
def p8E : Enc (UInt8 × UInt8) := ⟨fun p => [u8 p.1,u8 p.2],2,fun _ => rfl,by decide,fun a u hu => by
 simp only [List.mem_cons,List.not_mem_nil,or_false] at hu
 rcases hu with rfl | rfl <;> rfl⟩
theorem pairs8_all : ∀ p ∈ pairs8,(p.1.toNat,p.2.toNat) ∈ pairsW := by decide
theorem pairs8_mem {k : Nat} (h : k < pairs8.length) : (pairs8[k].1.toNat,pairs8[k].2.toNat) ∈ pairsW := pairs8_all _ (List.getElem_mem h)
theorem keptX_wrd {m : Nat} {x : ExD} (h : x.ev.length ≤ 64) : WrdR (keptX m x).to := by
 unfold keptX
 split
 ·exact pick_wrd h
 ·exact fun i _ => (by show 0 < 2 ^ 64; decide)
section
variable {w : World} {x : ExD} {q : Option Addr} {c : Nat}
theorem ExV.wx (h : ExV w x q) : WX x := ⟨h.po,h.rf,h.co,h.dt,h.ct,h.rm⟩
theorem exv_of (h : SlR evE w q x.ev ∧ WX x) (h16 : x.ev.length ≤ 16) : ExV w x q := ⟨h.1,by omega,h.2.po,h.2.rf,h.2.co,h.2.dt,h.2.ct,h.2.rm⟩
theorem modelWeaker_c (hv : x.ev.length ≤ 16 → ExV w x q) (hG : GlobE w) : Calls Tryz.prog 3 #[.agg (exC x q c).toArray] w fun e w' => e = .returned (.bool true) ∧ Below w.heap.size w w' := by
 refine calls_of_M (S := sg 55) (sgOk _) (args := [.agg (exC x q c).toArray]) (.c .p (.c .p (.c (.s .p (.b (.l (.s .p (.s .p (.s (.b (.c .p (.c .p (.c .p .p)))) .p)))))) .p))) Tryz.func3 rfl rfl (Nat.le_of_ble_eq_true rfl) rfl ?_
 obtain ⟨L,hL⟩ : ∃ L,L = w.heap.size := ⟨_,rfl⟩
 refine ⟨Unit,fun _ => ⟨[(1,At0 L)],[]⟩,fun _ X => ExH X L x q c ∧ Below w.heap.size w X,⟨(),⟨.cons (by rw [hL]; rfl) .nil,rfl⟩,by rw [hL]; exact hnew w _,(Below.refl _ w).alloc (Nat.le_refl _) _⟩,?_⟩
 rintro _ X ⟨fX,hbX⟩
 refine ⟨Unit,fun _ => ⟨[(1,At0 L)],[]⟩,fun _ Y => x.ev.length ≤ 16 ∧ ExH Y L x q c ∧ Below w.heap.size w Y,?_,?_⟩
 ·refine ⟨exC x q c,exC_len _ _ _,cells_block fX,hlt fX,?_⟩
  refine Calls.mono (few_c (exC_len x q c) rfl) ?_
  rintro e Y ⟨rfl,hbY⟩
  have bY := hbX.trans (hbY.mono hbX.size)
  refine And.intro (fun h => ?_) (fun h => ?_)
  ·refine Calls.mono (aw10_c (hG.below bY)) ?_
   rintro e Z ⟨rfl,hbZ⟩
   exact ⟨rfl,bY.trans (hbZ.mono bY.size)⟩
  ·have h : decide (x.ev.length ≤ 16) = true := notF h
   exact ⟨(),⟨.cons rfl .nil,rfl⟩,of_decide_eq_true h,block_below hbY fX,bY⟩
 clear fX hbX
 clear X
 rintro _ X ⟨h16,fX,hbX⟩
 have hv := hv h16
 have hwx := hv.wx
 refine ⟨Unit,fun _ => ⟨[],[]⟩,fun _ Y => Below w.heap.size w Y,?_,?_⟩
 ·refine ⟨[u8 2,u8 3],by kernel_rfl,?_⟩
  refine ⟨[u8 3,u8 4],by kernel_rfl,?_⟩
  refine ⟨[u8 4,u8 6],by kernel_rfl,?_⟩
  refine ⟨[u8 2,u8 5],by kernel_rfl,?_⟩
  refine ⟨[u8 6,u8 1],by kernel_rfl,?_⟩
  refine ⟨[u8 5,u8 1],by kernel_rfl,?_⟩
  refine ⟨⟨by decide,by decide,rfl⟩,pairs8.flatMap p8E.enc,by kernel_rfl,?_⟩
  obtain ⟨P,hP⟩ : ∃ P,P = X.heap.size := ⟨_,rfl⟩
  refine ⟨Nat,fun k => ⟨[(1,At0 L),(17,.slice (some ⟨P,0,none⟩) 6 6),(18,i64 6),(19,i64 (k : Nat))],[]⟩,fun k Y => k ≤ 6 ∧ SlR p8E Y (some ⟨P,0,none⟩) pairs8 ∧ ExH Y L x q c ∧ Below w.heap.size w Y,fun k => 6 - k,0,
   ⟨.cons rfl (.cons (by rw [hP]; rfl) (.cons rfl (.cons rfl .nil))),rfl⟩,⟨Nat.zero_le _,by rw [hP]; exact SlR.of_cells (hlt (hnew X _)) (cells_block (hnew X _)),hold _ fX,hbX.alloc hbX.size _⟩,?_⟩
  clear hP fX hbX
  clear X
  rintro k Y ⟨hk,rP,fY,hbY⟩
  dsimp only
  refine And.intro (fun hc => ?_) (fun hc => ?_)
  ·have hc : (k : Int) < 6 := of_decide_eq_true hc
   have hk6 : k < pairs8.length := (by omega : k < 6)
   have hmem := pairs8_mem hk6
   obtain ⟨p,hp⟩ : ∃ p,pairs8[k] = p := ⟨_,rfl⟩
   obtain ⟨bp,op,hq,hbp,hat⟩ := rP.at hk6
   have hatk := hat k hk6
   rw [hp] at hmem hatk
   obtain ⟨rfl,rfl⟩ : P = bp ∧ op = 0 := by simpa [eq_comm] using hq
   refine ⟨Nat,fun M => ⟨[(1,At0 L),(4,At0 M),(17,.slice (some ⟨P,0,none⟩) 6 6),(18,i64 6),(19,i64 (k : Nat))],[]⟩,fun M Z => Z.heap[M]? = some (.cells #[u8 p.1,u8 p.2] 37 (0,0)) ∧ Below Y.heap.size Y Z,?_,?_⟩
   ·refine ⟨k,rfl,(by omega : k < 6),?_⟩
    refine ⟨[u8 p.1,u8 p.2],rfl,hatk,hbp,?_⟩
    refine store_new (X := Y) (v := .agg #[u8 p.1,u8 p.2]) (ttOk.get 37 _ rfl) rfl rfl rfl fun Z hbZ fZ sZ => ?_
    exact ⟨Y.heap.size,⟨.cons rfl (.cons rfl (.cons rfl (.cons rfl (.cons rfl .nil)))),rfl⟩,fZ,hbZ⟩
   rintro M Z ⟨fM,hbZ⟩
   have bZ := hbY.trans (hbZ.mono hbY.size)
   have fZ := block_below hbZ fY
   refine ⟨Unit,fun _ => ⟨[(1,At0 L),(4,At0 M),(17,.slice (some ⟨P,0,none⟩) 6 6),(18,i64 6),(19,i64 (k : Nat))],[]⟩,fun _ V => Below Z.heap.size Z V,?_,?_⟩
   ·refine ⟨0,rfl,by decide,?_⟩
    refine ⟨u8 p.1,cells_at (cells_block fM) (i := 0) rfl,?_⟩
    refine ⟨exC x q c,exC_len _ _ _,cells_block fZ,hlt fZ,?_⟩
    refine Calls.mono (Holds_c (m := p.1) (hv.below bZ) (hG.t64.below bZ)) ?_
    rintro e V ⟨rfl,hbV⟩
    have bV := bZ.trans (hbV.mono bZ.size)
    refine And.intro (fun h1 => ?_) (fun h1 => ?_)
    ·have h1 : holdsM p.1.toNat x = true := h1
     have h2 : holdsM p.2.toNat x = true := weaker_holds hwx hmem h1
     refine ⟨1,rfl,by decide,?_⟩
     refine ⟨u8 p.2,cells_at (cells_block (block_below hbV fM)) (i := 1) rfl,?_⟩
     refine ⟨exC x q c,exC_len _ _ _,cells_block (block_below hbV fZ),hlt (block_below hbV fZ),?_⟩
     refine Calls.mono (Holds_c (m := p.2) (hv.below bV) (hG.t64.below bV)) ?_
     rintro e U ⟨rfl,hbU⟩
     rw [h2]
     refine brF ?_
     exact ⟨(),⟨.cons rfl (.cons rfl (.cons rfl (.cons rfl (.cons rfl .nil)))),rfl⟩,hbV.trans (hbU.mono hbV.size)⟩
    ·refine brF ?_
     exact ⟨(),⟨.cons rfl (.cons rfl (.cons rfl (.cons rfl (.cons rfl .nil)))),rfl⟩,hbV⟩
   rintro _ V hbV
   have bV := bZ.trans (hbV.mono bZ.size)
   have gM := block_below hbV fM
   have gV := block_below hbV fZ
   have rV := (rP.below hbZ).below hbV
   obtain ⟨k0,k1⟩ := weaker_kept hwx hmem
   obtain ⟨A,hA⟩ : ∃ A,A = keptX p.2.toNat x := ⟨_,rfl⟩
   obtain ⟨B,hB⟩ : ∃ B,B = keptX p.1.toNat x := ⟨_,rfl⟩
   have wA : WrdR A.to := by rw [hA]; exact keptX_wrd (by omega)
   have wB : WrdR B.to := by rw [hB]; exact keptX_wrd (by omega)
   dsimp only at k0 k1
   rw [← hA,← hB] at k0 k1
   clear fM fZ hbV bZ hbZ hbY hbp hat hatk hq rP fY
   clear Z Y
   refine ⟨Nat,fun G => ⟨[(1,At0 L),(5,At0 G),(6,i64 0),(17,.slice (some ⟨P,0,none⟩) 6 6),(18,i64 6),(19,i64 (k : Nat))],[]⟩,fun G U => RelH U G (minusR A B).1 ∧ Below V.heap.size V U,?_,?_⟩
   ·have dV : Below V.heap.size V V.drew := (Below.refl _ _).drew
    have hba : ∀ (A : World) (o : Obj),Below A.heap.size A (A.alloc o) := fun A o => (Below.refl _ _).alloc (Nat.le_refl _) _
    have put : ∀ {W : World} {b3 : Nat},Below V.heap.size V W → RelH W b3 zeroR → V.heap.size ≤ b3 → ∀ {K : World → Prop},(∀ Y,(RelH Y b3 (minusR A B).1 ∧ Below V.heap.size V Y) → K Y) →
      SatR ((storeVar 27 ⟨b3,0,none⟩ (.agg (relC (minusR A B).1).toArray)).run Tryz.prog W) fun _ w' => K w' := fun {W b3} hW f3 g3 {K} k =>
     store_box (v := .agg (relC (minusR A B).1).toArray) (ttOk.get 27 _ rfl) f3 (relC_len _) (relC_len _) (relC_one _) (k _ ⟨setRow_new f3,below_setRow hW g3 _⟩)
    have kA : ∀ {W : World},Below V.heap.size V W → Calls Tryz.prog 9 #[u8 p.2,.agg (exC x q c).toArray] W fun e w' => e = .returned (.agg (relC A).toArray) ∧ Below W.heap.size W w' := fun {W} hW => by
     have h2 := bV.trans (hW.mono bV.size)
     rw [hA]
     exact KeptM_c (hv.below h2) (hG.t64.below h2)
    have kB : ∀ {W : World},Below V.heap.size V W → Calls Tryz.prog 9 #[u8 p.1,.agg (exC x q c).toArray] W fun e w' => e = .returned (.agg (relC B).toArray) ∧ Below W.heap.size W w' := fun {W} hW => by
     have h2 := bV.trans (hW.mono bV.size)
     rw [hB]
     exact KeptM_c (hv.below h2) (hG.t64.below h2)
    refine DrawE.treeQ [13] (.op 0 (.op 1 (.op 2 (.op 4 (.op 5 (.op 6 (.alt (.op 12 (.op 3 (.op 7 (.op 8 (.op 9 (.op 10 (.op 11 (.op 13 (.op 14 (.nil)))))))))) (.op 3 (.alt (.op 12 (.op 7 (.op 8 (.op 9 (.op 10 (.op 11 (.op 13 (.op 14 (.nil))))))))) (.op 7 (.alt (.op 12 (.op 8 (.op 9 (.op 10 (.op 11 (.op 13 (.op 14 (.nil)))))))) (.op 8 (.op 9 (.op 10 (.op 11 (.op 12 (.op 13 (.op 14 (.nil))))))))))))))))))) (by kernel_rfl) ?_
    refine ⟨1,rfl,by decide,?_⟩
    refine ⟨u8 p.2,cells_at (cells_block (hdr gM)) (i := 1) rfl,?_⟩
    refine ⟨exC x q c,exC_len _ _ _,cells_block (hdr gV),hlt (hdr gV),?_⟩
    refine ⟨0,rfl,by decide,?_⟩
    refine ⟨u8 p.1,cells_at (cells_block (hdr gM)) (i := 0) rfl,?_⟩
    refine ⟨exC x q c,exC_len _ _ _,cells_block (hdr gV),hlt (hdr gV),?_⟩
    refine And.intro ?_ ?_
    ·refine ⟨hba _ _,?_⟩
     have b1 := dV.alloc (Nat.le_refl _) (.cells (relC zeroR).toArray 27)
     refine Calls.mono (kA b1) ?_
     rintro e W1 ⟨rfl,h1⟩
     refine ⟨h1,?_⟩
     have b2 := b1.trans (h1.mono b1.size)
     refine Calls.mono (kB b2) ?_
     rintro e W2 ⟨rfl,h2⟩
     refine ⟨h2,?_⟩
     have b3 := b2.trans (h2.mono b2.size)
     refine Calls.mono (Less_c wA wB) ?_
     rintro e W3 ⟨rfl,h3⟩
     refine ⟨h3,?_⟩
     rw [k0]
     refine put (b3.trans (h3.mono b3.size)) (block_below h3 (block_below h2 (block_below h1 (hnew V.drew _)))) (Nat.le_refl _) fun Y hY => ?_
     exact ⟨V.heap.size,⟨.cons rfl (.cons rfl (.cons rfl (.cons rfl (.cons rfl (.cons rfl .nil))))),rfl⟩,hY⟩
    refine Calls.mono (kA dV) ?_
    rintro e W1 ⟨rfl,h1⟩
    refine ⟨h1,?_⟩
    have b1 := dV.trans h1
    refine And.intro ?_ ?_
    ·refine ⟨hba _ _,?_⟩
     have b2 := b1.alloc b1.size (.cells (relC zeroR).toArray 27)
     refine Calls.mono (kB b2) ?_
     rintro e W2 ⟨rfl,h2⟩
     refine ⟨h2,?_⟩
     have b3 := b2.trans (h2.mono b2.size)
     refine Calls.mono (Less_c wA wB) ?_
     rintro e W3 ⟨rfl,h3⟩
     refine ⟨h3,?_⟩
     rw [k0]
     refine put (b3.trans (h3.mono b3.size)) (block_below h3 (block_below h2 (hnew W1 _))) b1.size fun Y hY => ?_
     exact ⟨W1.heap.size,⟨.cons rfl (.cons rfl (.cons rfl (.cons rfl (.cons rfl (.cons rfl .nil))))),rfl⟩,hY⟩
    refine Calls.mono (kB b1) ?_
    rintro e W2 ⟨rfl,h2⟩
    refine ⟨h2,?_⟩
    have b2 := b1.trans (h2.mono b1.size)
    refine And.intro ?_ ?_
    ·refine ⟨hba _ _,?_⟩
     have b3 := b2.alloc b2.size (.cells (relC zeroR).toArray 27)
     refine Calls.mono (Less_c wA wB) ?_
     rintro e W3 ⟨rfl,h3⟩
     refine ⟨h3,?_⟩
     rw [k0]
     refine put (b3.trans (h3.mono b3.size)) (block_below h3 (hnew W2 _)) b2.size fun Y hY => ?_
     exact ⟨W2.heap.size,⟨.cons rfl (.cons rfl (.cons rfl (.cons rfl (.cons rfl (.cons rfl .nil))))),rfl⟩,hY⟩
    ·refine Calls.mono (Less_c wA wB) ?_
     rintro e W3 ⟨rfl,h3⟩
     refine ⟨h3,?_⟩
     have b3 := b2.trans (h3.mono b2.size)
     refine ⟨hba _ _,?_⟩
     rw [k0]
     refine put (b3.alloc b3.size _) (hnew W3 _) b3.size fun Y hY => ?_
     exact ⟨W3.heap.size,⟨.cons rfl (.cons rfl (.cons rfl (.cons rfl (.cons rfl (.cons rfl .nil))))),rfl⟩,hY⟩
   rintro G U ⟨fG,hbU⟩
   refine brN (show (!decide ((0 : Int) = 0)) = false from rfl) ?_
   refine ⟨relC (minusR A B).1,relC_len _,cells_block fG,hlt fG,?_⟩
   refine Calls.mono (Empty_c (minus_wrd wA)) ?_
   rintro e T ⟨rfl,hbT⟩
   rw [k1]
   refine brF ?_
   have bT := hbU.trans (hbT.mono hbU.size)
   refine ⟨((k + 1 : Nat) : Int),(wrap_i64 (by omega)).trans (by omega),?_⟩
   exact ⟨k + 1,⟨.cons rfl (.cons rfl (.cons rfl (.cons rfl .nil))),rfl⟩,⟨by omega,rV.below bT,block_below bT gV,bV.trans (bT.mono bV.size)⟩,by show 6 - (k + 1) < 6 - k; omega⟩
  ·exact ⟨(),⟨.nil,rfl⟩,hbY⟩
 rintro _ Y hbY
 refine Calls.mono (aw10_c (hG.below hbY)) ?_
 rintro e Z ⟨rfl,hbZ⟩
 exact ⟨rfl,hbY.trans (hbZ.mono hbY.size)⟩
end
end Go.Proofs.YtkpcgpmimejimaaGreatDoor
namespace Go.Proofs.YtkpcgpmimejimaaGreatDoor
open Go.Vc Go.RowKit Go.Sei
open Go.ChangeShapes Go.WideShapes Go.ChangeAt
section
variable {H : Type} {enc : TypeId × Value → H} {P : Program} {w : World} {base : Nat} {spare : Nat → Bool} {held : Bool} {fuel : Nat} {t : TypeId} {cs : List Value} {x : DataW H × List MemPlace}
theorem open_u8 (ht : P.underlying t = some (.int .u8)) (h : DataW.trod enc P w base spare held fuel t cs = some x) : ∃ b : UInt8,cs = [u8 b] ∧ x.1 = .lit (.int .u8 b.toNat) := by
 obtain ⟨n,rfl,rfl,hw⟩ := DataW.trod_int ht h
 have hb := bounds_u8 hw
 have e : ((UInt8.ofNat n.toNat).toNat : Int) = n := by
  rw [UInt8.toNat_ofNat']; omega
 exact ⟨UInt8.ofNat n.toNat,by rw [u8,e],by rw [e]⟩
theorem open_u8s {n : Nat} {e : TypeId} (ht : P.underlying t = some (.array n e)) (he : P.underlying e = some (.int .u8)) (hc : P.cellsOf e = 1) (hn : P.cellsOf t = n)
  (h : DataW.trod enc P w base spare held fuel t cs = some x) : ∃ bs : List UInt8,bs.length = n ∧ cs = bs.map u8 ∧ x.1 = .agg (bs.map fun b => .lit (.int .u8 b.toNat)) := by
 obtain ⟨xs,m,rfl,rfl,hl,hx,hel⟩ := DataW.trod_array ht h
 rw [hn] at hl
 have each : ∀ i (h : i < n),∃ b : UInt8,cs[i]? = some (u8 b) ∧ xs[i]?.map (·.1) = some (.lit (.int .u8 b.toNat)) := fun i hi => by
  have h1 := hel i hi
  rw [hc,List.getElem?_eq_getElem (by omega)] at h1
  obtain ⟨b,h2,h3⟩ := open_u8 he h1
  refine ⟨b,?_,by rw [List.getElem?_eq_getElem (by omega),Option.map_some,h3]⟩
  have : ((cs.drop (i * 1)).take 1)[0]? = some (u8 b) := by rw [h2]; rfl
  simpa using this
 have : ∀ k,k ≤ n → ∃ bs : List UInt8,bs.length = k ∧ cs.take k = bs.map u8 ∧ (xs.take k).map (·.1) = bs.map fun b => .lit (.int .u8 b.toNat) := by
  intro k
  induction k with
  | zero => exact fun _ => ⟨[],rfl,by simp,by simp⟩
  | succ k ih =>
   intro hk
   obtain ⟨bs,h1,h2,h3⟩ := ih (by omega)
   obtain ⟨b,h4,h5⟩ := each k (by omega)
   have hk1 : k < cs.length := by omega
   have hk2 : k < xs.length := by omega
   rw [List.getElem?_eq_getElem hk1] at h4
   rw [List.getElem?_eq_getElem hk2] at h5
   refine ⟨bs ++ [b],by simp [h1],?_,?_⟩
   ·rw [List.take_succ_eq_append_getElem hk1,h2,Option.some.inj h4]; simp
   ·rw [List.take_succ_eq_append_getElem hk2,List.map_append,h3]
    simp at h5
    simp [h5]
 obtain ⟨bs,h1,h2,h3⟩ := this n (Nat.le_refl _)
 rw [List.take_of_length_le (by omega)] at h2 h3
 exact ⟨bs,h1,h2,by rw [← h3]⟩
end
theorem cells5 : Tryz.prog.cellsOf 5 = 1 := by kernel_rfl
theorem add_none (b o i : Nat) : (⟨b,o,none⟩ : Addr).add i = ⟨b,o + i,none⟩ := by
 unfold Addr.add
 by_cases h : i = 0
 ·simp [h]
 ·simp [h]
section
variable {w : World} {base : Nat} {cs : List Value}
theorem cells_of_run {a : Addr} {n : Nat} (hn : 0 < n) (h : w.cells? base a n = some cs) : a.spot = none ∧ a.block < w.heap.size ∧ Cells w ⟨a.block,a.off,none⟩ cs := by
 obtain ⟨_,hl,hc⟩ := World.cells?_some h
 have h0 := hc 0 hn
 rw [List.getElem?_eq_getElem (by omega)] at h0
 have hs : a.spot = none := by simpa [Addr.add] using World.cell?_spot h0
 obtain ⟨b,o,s⟩ := a
 dsimp only at hs
 subst hs
 refine ⟨rfl,World.block_lt_of_cell? _ _ h0,cells_mk fun i v hv => ?_⟩
 have hi : i < n := by have := (List.getElem?_eq_some_iff.1 hv).1; omega
 have := (hc i hi).trans hv
 rw [add_none] at this
 exact this
end
theorem seat_own : ownKnob Tryz.prog.godebug = none := by kernel_rfl
theorem seat_laidOut : laidOutB Tryz.prog = true := by kernel_rfl
section
variable {H : Type} {enc : TypeId × Value → H} {P : Program} {w : World} {base : Nat} {spare : Nat → Bool} {held : Bool} {fuel : Nat} {t e : TypeId} {cs : List Value} {x : DataW H × List MemPlace}
def Opens (enc : TypeId × Value → H) (P : Program) (w : World) (base : Nat) (spare : Nat → Bool) (held : Bool) (t : TypeId) (R : List Value → Prop) : Prop :=
 ∀ fuel cs x,DataW.trod enc P w base spare held fuel t cs = some x → R cs
theorem Opens.field {fs : Array Field} {R : List Value → Prop} {i : Nat} {f : Field} {n : Nat} {xs : List (DataW H × List MemPlace)} {m : Nat} (hel : ∀ (i : Nat) (f : Field),fs[i]? = some f → DataW.trod enc P w base spare held m f.type ((cs.drop f.offset).take (P.cellsOf f.type)) = xs[i]?)
  (hl : xs.length = fs.size) (hi : fs[i]? = some f) {o : Nat} (hoo : f.offset = o) (hn : P.cellsOf f.type = n) (ho : Opens enc P w base spare held f.type R) : R ((cs.drop o).take n) := by
 subst hoo
 have h1 := hel i f hi
 have : i < fs.size := (Array.getElem?_eq_some_iff.1 hi).1
 rw [List.getElem?_eq_getElem (by omega),hn] at h1
 exact ho _ _ _ h1
theorem opens_u8 (ht : P.underlying t = some (.int .u8)) : Opens enc P w base spare held t fun cs => ∃ b : UInt8,cs = [u8 b] := fun fuel cs x h => by
 obtain ⟨b,h,_⟩ := open_u8 ht h
 exact ⟨b,h⟩
theorem opens_int (ht : P.underlying t = some (.int .i64)) : Opens enc P w base spare held t fun cs => ∃ b : Int,cs = [.int .i64 b] := fun fuel cs x h => by
 obtain ⟨n,h,_,_⟩ := DataW.trod_int ht h
 exact ⟨n,h⟩
theorem opens_u64 (ht : P.underlying t = some (.int .u64)) : Opens enc P w base spare held t fun cs => ∃ n : Nat,n < 18446744073709551616 ∧ cs = [.int .u64 (n : Int)] := fun fuel cs x h => by
 obtain ⟨n,rfl,_,hw⟩ := DataW.trod_int ht h
 have hb : 0 ≤ n ∧ n ≤ 18446744073709551615 := by
  simp only [Lit.wf,decide_eq_true_eq,Bool.and_eq_true] at hw
  first
   | exact ⟨by simpa [IntKind.min,IntKind.signed,IntKind.bits] using hw.1,by simpa [IntKind.max,IntKind.signed,IntKind.bits] using hw.2⟩
   | (simp [IntKind.min,IntKind.max,IntKind.signed,IntKind.bits] at hw; omega)
 exact ⟨n.toNat,by omega,by congr 2; omega⟩
theorem opens_u8s {n : Nat} (ht : P.underlying t = some (.array n e)) (he : P.underlying e = some (.int .u8)) (hc : P.cellsOf e = 1) (hn : P.cellsOf t = n) : Opens enc P w base spare held t fun cs => ∃ bs : List UInt8,bs.length = n ∧ cs = bs.map u8 := fun fuel cs x h => by
 obtain ⟨bs,h1,h2,_⟩ := open_u8s ht he hc hn h
 exact ⟨bs,h1,h2⟩
theorem list_of {β : Type} {n : Nat} (i0 : β) {Q : Nat → β → Prop} (h : ∀ i,i < n → ∃ b,Q i b) : ∃ bs : List β,bs.length = n ∧ ∀ i (hi : i < bs.length),Q i bs[i] := by
 have h2 : ∀ i,∃ b,i < n → Q i b := fun i => by
  by_cases hi : i < n
  ·obtain ⟨b,hb⟩ := h i hi; exact ⟨b,fun _ => hb⟩
  ·exact ⟨i0,fun h => absurd h hi⟩
 obtain ⟨g,hg⟩ := Classical.axiomOfChoice h2
 refine ⟨(List.range n).map g,by simp,fun i hi => ?_⟩
 simp only [List.getElem_map,List.getElem_range]
 exact hg i (by simpa using hi)
theorem flat_of {β : Type} {f : β → List Value} {sz : Nat} : ∀ (bs : List β) (cs : List Value),cs.length = bs.length * sz → (∀ i (h : i < bs.length),(cs.drop (i * sz)).take sz = f bs[i]) → cs = bs.flatMap f
 | [],cs,hl,_ => by simpa using hl
 | b :: r,cs,hl,h => by
  have h0 := h 0 (by simp)
  simp only [Nat.zero_mul,List.drop_zero,List.getElem_cons_zero] at h0
  rw [List.flatMap_cons,← h0]
  conv => lhs; rw [← List.take_append_drop sz cs]
  congr 1
  refine flat_of (sz := sz) r (cs.drop sz) (by rw [List.length_drop,hl,List.length_cons,Nat.add_mul]; omega) fun i hi => ?_
  have h1 := h (i + 1) (by simpa using hi)
  rw [List.drop_drop]
  simpa [Nat.add_mul,Nat.add_comm] using h1
theorem opens_arr {β : Type} (i0 : β) {f : β → List Value} {Q : β → Prop} {n sz : Nat} (ht : P.underlying t = some (.array n e)) (hc : P.cellsOf e = sz) (hn : P.cellsOf t = n * sz) (ho : Opens enc P w base spare held e fun cs => ∃ b,Q b ∧ cs = f b) :
  Opens enc P w base spare held t fun cs => ∃ bs : List β,bs.length = n ∧ (∀ b ∈ bs,Q b) ∧ cs = bs.flatMap f := fun fuel cs x h => by
 obtain ⟨xs,m,rfl,rfl,hl,hx,hel⟩ := DataW.trod_array ht h
 rw [hn] at hl
 have each : ∀ i,i < n → ∃ b : β,Q b ∧ (cs.drop (i * sz)).take sz = f b := fun i hi => by
  have h1 := hel i hi
  rw [hc,List.getElem?_eq_getElem (by omega)] at h1
  exact ho _ _ _ h1
 obtain ⟨bs,h1,h2⟩ := list_of i0 each
 refine ⟨bs,h1,fun b hb => ?_,flat_of bs cs (by rw [hl,h1]) fun i hi => (h2 i hi).2⟩
 obtain ⟨i,hi,rfl⟩ := List.getElem_of_mem hb
 exact (h2 i hi).1
theorem opens_sl {β : Type} (i0 : β) {f : β → List Value} {Q : β → Prop} {sz : Nat} (hp : 0 < sz) (ht : P.underlying t = some (.slice e)) (hc : P.cellsOf e = sz) (ho : Opens enc P w base spare held e fun cs => ∃ b,Q b ∧ cs = f b) :
  Opens enc P w base spare held t fun cs => ∃ (p : Option Addr) (cap : Nat) (l : List β),cs = [.slice p l.length cap] ∧ l.length ≤ 9223372036854775807 ∧ (p = none → cap = 0) ∧ (∀ b ∈ l,Q b) ∧ ∃ b o,(l.length = 0 ∨ p = some ⟨b,o,none⟩) ∧ ∀ i (hi : i < l.length),b < w.heap.size ∧ Cells w ⟨b,o + i * sz,none⟩ (f l[i]) := fun fuel cs x h => by
 rcases DataW.trod_slice ht h with ⟨rfl,_⟩ | ⟨a,len,cap,elems,rest,n,_,rfl,_,_,hlc,hcm,hlen,hel,_,_⟩
 ·exact ⟨none,0,[],rfl,by simp,fun _ => rfl,by simp,0,0,.inl rfl,fun i hi => by simp at hi⟩
 ·have each : ∀ i,i < len → ∃ m : β,Q m ∧ (a.add (i * sz)).spot = none ∧ (a.add (i * sz)).block < w.heap.size ∧ Cells w ⟨(a.add (i * sz)).block,(a.add (i * sz)).off,none⟩ (f m) := fun i hi => by
   have h1 := hel i hi
   rw [hc,List.getElem?_eq_getElem (by omega),Option.bind_eq_some_iff] at h1
   obtain ⟨cs,h2,h3⟩ := h1
   obtain ⟨m,hq,rfl⟩ := ho _ _ _ h3
   exact ⟨m,hq,cells_of_run hp h2⟩
  obtain ⟨l,h1,h2⟩ := list_of i0 each
  have hm : maxLen = 9223372036854775807 := rfl
  refine ⟨some a,cap,l,by rw [h1],by omega,(fun h => by cases h),fun b hb => ?_,a.block,a.off,?_,fun i hi => ?_⟩
  ·obtain ⟨i,hi,rfl⟩ := List.getElem_of_mem hb
   exact (h2 i hi).1
  ·by_cases h00 : l.length = 0
   ·exact .inl h00
   ·right
    have hsp : a.spot = none := by
     have := (h2 0 (by omega)).2.1
     simpa [Addr.add] using this
    obtain ⟨b,o,s⟩ := a
    dsimp only at hsp
    subst hsp
    rfl
  ·have hsp : a.spot = none := by
    have := (h2 0 (by omega)).2.1
    simpa [Addr.add] using this
   obtain ⟨b,o,s⟩ := a
   dsimp only at hsp
   subst hsp
   have := (h2 i hi).2.2
   rw [add_none] at this
   exact this
theorem cut (cs : List Value) (o n o' : Nat) (h : o + n = o') : cs.drop o = (cs.drop o).take n ++ cs.drop o' := by
 rw [← h,← List.drop_drop,List.take_append_drop]
end
theorem cC (t n : Nat) (h : Tryz.prog.cellsOf t = n) : Tryz.prog.cellsOf t = n := h
theorem returns_and_sized {H : Type} {enc : TypeId × Value → H} {a : Assume} {C : Checked} {os : Os} {f : FuncId} {fn : Func} {s : ChangeSpec} {conds : List PathCond} {apart fresh handsOn again : Bool} {X : World → Array Value → Prop}
  (hX : ∀ (w w' : World) (args : Array Value),w.heap = w'.heap → X w args → X w' args)
  (own : ownKnob C.prog.godebug = none) (started : os.Started) (noInit : C.prog.inits.idxOf? f = none) (hfn : C.prog.funcs[f]? = some fn)
  (witness : ∃ (w : World) (tape : Tape) (i : Input),w.os = os ∧ (w.forCall tape i).Shaped C.prog ∧ i.vars = [] ∧ Input.okWide C.prog (w.forCall tape i) .any w.heap.size f i ∧
   ((s.pre enc C.prog fn conds apart (w.forCall tape i).memory i.args ∧ X (w.forCall tape i).memory i.args) ∧ sizedMet enc C.prog fn (OpenSpec.ofChange s) apart (w.forCall tape i).memory i.args) ∧ a.holds C.prog (lone (Frame.enter C.prog f i.args .normal) [] (w.forCall tape i)))
  (contract : ∀ (W : World) (base : Nat) (args : Array Value) (ds gs : List (DataW H)) (before : List MemPlace),
   (∀ (j : Nat) t v,fn.params[j]? = some t → args[j]? = some v → Value.okWide C.prog W .any base t v) →
   DataW.Whole enc C.prog fn.params.toList s.vars apart W args.toList ds gs before → X W args → W.ShapedOpen C.prog →
   (∃ ds gs before,DataW.Whole enc C.prog fn.params.toList (OpenSpec.ofChange s).vars apart W args.toList ds gs before ∧ ∀ n ∈ DataW.weightsEach C.prog (fn.params.toList ++ (OpenSpec.ofChange s).bare.plain.varTypes C.prog) (ds ++ gs),n ≤ reachBytes) →
   Calls C.prog f args W fun e W' => ∃ v,e = .returned v ∧ s.post enc C.prog fn apart fresh handsOn again W args v W') :
  ReturnsInHanded a C os f .any (fun w args => (s.pre enc C.prog fn conds apart w args ∧ X w args) ∧ sizedMet enc C.prog fn (OpenSpec.ofChange s) apart w args) (s.post enc C.prog fn apart fresh handsOn again) := by
 refine returnsInHanded_of_calls own started noInit witness ?_
 intro w tape i _ hsh _ hok hpre hholds
 obtain ⟨_,_,_,fn',hfn',_,_,_,_,hval⟩ := hok
 have e : fn' = fn := Option.some.inj (hfn'.symm.trans hfn)
 subst e
 obtain ⟨⟨⟨ds,gs,before,hw,hc⟩,hx⟩,hz⟩ := hpre
 have hw' := DataW.Whole.of_heap (w' := w.forCall tape i) (by rfl) hw
 obtain ⟨_,ds2,gs2,before2,hw2,hall⟩ := hz
 refine (contract (w.forCall tape i) w.heap.size i.args ds gs before hval hw' (hX _ _ _ (by rfl) hx) hsh ⟨ds2,gs2,before2,DataW.Whole.of_heap (w' := w.forCall tape i) (by rfl) hw2,fun n hn => of_decide_eq_true (List.all_eq_true.1 hall n hn)⟩).mono fun e W' ⟨v,he,hp⟩ => ?_
 subst he
 exact ChangeSpec.post_blind hp
theorem lits_inj {H : Type} : ∀ {a b : List UInt8},a.map (fun b => (DataW.lit (.int .u8 b.toNat) : DataW H)) = b.map (fun b => DataW.lit (.int .u8 b.toNat)) → a = b
 | [],[],_ => rfl
 | [],_ :: _,h => by cases h
 | _ :: _,[],h => by cases h
 | x :: a,y :: b,h => by
  simp only [List.map_cons,List.cons.injEq,DataW.lit.injEq,Lit.int.injEq,true_and] at h
  rw [lits_inj h.2,UInt8.toNat_inj.1 (by omega : x.toNat = y.toNat)]
end Go.Proofs.YtkpcgpmimejimaaGreatDoor
namespace Go.Proofs.YtkpcgpmimejimaaGreatDoor
open Go.Vc Go.RowKit Go.Sei
open Go.ChangeShapes Go.WideShapes Go.ChangeAt
theorem map_getD {α : Type} (d : α) (f : α → Value) (n : Nat) (l : List α) (h : l.length = n) : l.map f = (List.range n).map fun i => f (l.getD i d) := by
 apply List.ext_getElem?
 intro i
 rw [List.getElem?_map,List.getElem?_map]
 by_cases hi : i < n
 ·rw [List.getElem?_range hi,List.getElem?_eq_getElem (by omega),Option.map_some,Option.map_some,List.getD_eq_getElem?_getD,List.getElem?_eq_getElem (by omega)]; rfl
 ·rw [List.getElem?_eq_none (by omega),List.getElem?_eq_none (by rw [List.length_range]; omega)]; rfl
theorem flatMap_one {α : Type} (f : α → Value) : ∀ l : List α,l.flatMap (fun x => [f x]) = l.map f
 | [] => rfl
 | a :: l => by rw [List.flatMap_cons,flatMap_one f l]; rfl
theorem flatMap_map {α : Type} (f : α → Value) : ∀ l : List (List α),l.flatMap (fun x => x.map f) = l.flatten.map f
 | [] => rfl
 | a :: l => by rw [List.flatMap_cons,flatMap_map f l,List.flatten_cons,List.map_append]
section
variable {H : Type} {enc : TypeId × Value → H} {w : World} {base : Nat} {spare : Nat → Bool} {held : Bool}
theorem opens_ev : Opens enc Tryz.prog w base spare held 52 fun cs => ∃ e : Ev,True ∧ cs = evE.enc e := fun fuel cs x h => by
 obtain ⟨xs,m,rfl,rfl,hl,hx,hel⟩ := DataW.trod_struct Tryz.underlying52 h
 rw [cC 52 7 (by kernel_rfl)] at hl
 obtain ⟨b0,e0⟩ := Opens.field (o := 0) (i := 0) hel hx rfl rfl (cC 3 1 (by kernel_rfl)) (opens_int Tryz.underlying3)
 obtain ⟨b1,e1⟩ := Opens.field (o := 1) (i := 1) hel hx rfl rfl cells5 (opens_u8 Tryz.underlying5)
 obtain ⟨b2,e2⟩ := Opens.field (o := 2) (i := 2) hel hx rfl rfl cells5 (opens_u8 Tryz.underlying5)
 obtain ⟨b3,e3⟩ := Opens.field (o := 3) (i := 3) hel hx rfl rfl cells5 (opens_u8 Tryz.underlying5)
 obtain ⟨b4,e4⟩ := Opens.field (o := 4) (i := 4) hel hx rfl rfl cells5 (opens_u8 Tryz.underlying5)
 obtain ⟨b5,e5⟩ := Opens.field (o := 5) (i := 5) hel hx rfl rfl cells5 (opens_u8 Tryz.underlying5)
 obtain ⟨b6,e6⟩ := Opens.field (o := 6) (i := 6) hel hx rfl rfl cells5 (opens_u8 Tryz.underlying5)
 refine ⟨⟨b0,b1,b2,b3,b4,b5,b6⟩,trivial,?_⟩
 have h0 : cs = cs.drop 0 := rfl
 have h9 : cs.drop 7 = [] := List.drop_of_length_le (by omega)
 rw [h0,cut cs 0 1 1 rfl,cut cs 1 1 2 rfl,cut cs 2 1 3 rfl,cut cs 3 1 4 rfl,cut cs 4 1 5 rfl,cut cs 5 1 6 rfl,cut cs 6 1 7 rfl,e0,e1,e2,e3,e4,e5,e6,h9]
 rfl
theorem opens_rel : Opens enc Tryz.prog w base spare held 27 fun cs => ∃ r : RelD,WrdR r.to ∧ cs = relC r := fun fuel cs x h => by
 obtain ⟨xs,m,rfl,rfl,hl,hx,hel⟩ := DataW.trod_struct Tryz.underlying27 h
 rw [cC 27 49 (by kernel_rfl)] at hl
 obtain ⟨n,e0⟩ := Opens.field (o := 0) (i := 0) hel hx rfl rfl (cC 3 1 (by kernel_rfl)) (opens_int Tryz.underlying3)
 obtain ⟨bs,h1,h2,e1⟩ := Opens.field (o := 1) (i := 1) hel hx rfl rfl (cC 25 48 (by kernel_rfl)) (opens_arr (β := Nat) 0 (f := fun n => [s64 n]) (Q := fun n => n < 18446744073709551616) (n := 48) (sz := 1) Tryz.underlying25 (by kernel_rfl) (by kernel_rfl) (opens_u64 Tryz.underlying24))
 refine ⟨⟨n,fun i => bs.getD i 0⟩,fun i hi => ?_,?_⟩
 ·show bs.getD i 0 < 2 ^ 64
  rw [List.getD_eq_getElem?_getD,List.getElem?_eq_getElem (by omega)]
  exact h2 _ (List.getElem_mem _)
 have h0 : cs = cs.drop 0 := rfl
 have h9 : cs.drop 49 = [] := List.drop_of_length_le (by omega)
 rw [h0,cut cs 0 1 1 rfl,cut cs 1 48 49 rfl,e0,e1,h9,flatMap_one,map_getD 0 s64 48 bs h1,List.append_nil]
 rfl
theorem opens_final : Opens enc Tryz.prog w base spare held 32 fun cs => ∃ (f g : Nat → UInt8),cs = seg 32 (fun i => u8 (f i)) ++ seg 6 (fun i => u8 (g i)) := fun fuel cs x h => by
 obtain ⟨xs,m,rfl,rfl,hl,hx,hel⟩ := DataW.trod_struct Tryz.underlying32 h
 rw [cC 32 38 (by kernel_rfl)] at hl
 have row : Opens enc Tryz.prog w base spare held 28 fun cs => ∃ bs : List UInt8,bs.length = 8 ∧ cs = bs.map u8 := opens_u8s Tryz.underlying28 Tryz.underlying5 cells5 (cC 28 8 (by kernel_rfl))
 obtain ⟨bss,h1,h2,e0⟩ := Opens.field (o := 0) (i := 0) hel hx rfl rfl (cC 29 32 (by kernel_rfl)) (opens_arr (β := List UInt8) [] (f := fun bs => bs.map u8) (Q := fun bs => bs.length = 8) (n := 4) (sz := 8) Tryz.underlying29 (by kernel_rfl) (by kernel_rfl) row)
 obtain ⟨ms,h3,e1⟩ := Opens.field (o := 32) (i := 1) hel hx rfl rfl (cC 30 6 (by kernel_rfl)) (opens_u8s Tryz.underlying30 Tryz.underlying5 cells5 (cC 30 6 (by kernel_rfl)))
 have hfl : bss.flatten.length = 32 := by
  match bss,h1 with
  | [a,b,c,d],_ =>
   have := h2 a (by simp); have := h2 b (by simp); have := h2 c (by simp); have := h2 d (by simp)
   simp only [List.flatten_cons,List.flatten_nil,List.length_append,List.length_nil]; omega
 refine ⟨fun i => bss.flatten.getD i 0,fun i => ms.getD i 0,?_⟩
 have h0 : cs = cs.drop 0 := rfl
 have h9 : cs.drop 38 = [] := List.drop_of_length_le (by omega)
 rw [h0,cut cs 0 32 32 rfl,cut cs 32 6 38 rfl,e0,e1,h9,flatMap_map,map_getD 0 u8 32 _ hfl,map_getD 0 u8 6 ms h3,List.append_nil]
 rfl
theorem slr_of {α : Type} {E : Enc α} {p : Option Addr} {l : List α} {b o : Nat} (h1 : l.length = 0 ∨ p = some ⟨b,o,none⟩) (h2 : ∀ i (hi : i < l.length),b < w.heap.size ∧ Cells w ⟨b,o + i * E.sz,none⟩ (E.enc l[i])) : SlR E w p l := by
 rcases h1 with h | h
 ·exact .inl (List.eq_nil_of_length_eq_zero h)
 ·by_cases h0 : l = []
  ·exact .inl h0
  ·have hl := List.length_pos_iff.2 h0
   exact .inr ⟨b,o,h,(h2 0 hl).1,fun i hi => (h2 i hi).2⟩
theorem opens_exec : Opens enc Tryz.prog w base spare held 34 fun cs => ∃ (x : ExD) (q : Option Addr) (c : Nat),(SlR evE w q x.ev ∧ WX x) ∧ cs = exC x q c := fun fuel cs x h => by
 obtain ⟨xs,m,rfl,rfl,hl,hx,hel⟩ := DataW.trod_struct Tryz.underlying34 h
 rw [cC 34 333 (by kernel_rfl)] at hl
 obtain ⟨q,c,l,e0,_,_,_,b,o,hp,hc⟩ := Opens.field (o := 0) (i := 0) hel hx rfl rfl (cC 22 1 (by kernel_rfl)) (opens_sl (β := Ev) ev0 (f := evE.enc) (Q := fun _ => True) (sz := 7) (by decide) Tryz.underlying22 (by kernel_rfl) opens_ev)
 have c49 := cC 27 49 (by kernel_rfl)
 obtain ⟨r1,w1,e1⟩ := Opens.field (o := 1) (i := 1) hel hx rfl rfl c49 opens_rel
 obtain ⟨r2,w2,e2⟩ := Opens.field (o := 50) (i := 2) hel hx rfl rfl c49 opens_rel
 obtain ⟨r3,w3,e3⟩ := Opens.field (o := 99) (i := 3) hel hx rfl rfl c49 opens_rel
 obtain ⟨r4,w4,e4⟩ := Opens.field (o := 148) (i := 4) hel hx rfl rfl c49 opens_rel
 obtain ⟨r5,w5,e5⟩ := Opens.field (o := 197) (i := 5) hel hx rfl rfl c49 opens_rel
 obtain ⟨r6,w6,e6⟩ := Opens.field (o := 246) (i := 6) hel hx rfl rfl c49 opens_rel
 obtain ⟨f,g,e7⟩ := Opens.field (o := 295) (i := 7) hel hx rfl rfl (cC 32 38 (by kernel_rfl)) opens_final
 refine ⟨⟨l,r1,r2,r3,r4,r5,r6,f,g⟩,q,c,⟨slr_of hp hc,⟨w1,w2,w3,w4,w5,w6⟩⟩,?_⟩
 have h0 : cs = cs.drop 0 := rfl
 have h9 : cs.drop 333 = [] := List.drop_of_length_le (by omega)
 rw [h0,cut cs 0 1 1 rfl,cut cs 1 49 50 rfl,cut cs 50 49 99 rfl,cut cs 99 49 148 rfl,cut cs 148 49 197 rfl,cut cs 197 49 246 rfl,cut cs 246 49 295 rfl,cut cs 295 38 333 rfl,e0,e1,e2,e3,e4,e5,e6,e7,h9,List.append_nil]
 rfl
theorem open_execv {a : Array Value} {d : DataW H} {p : List MemPlace} (h : DataW.Trod enc Tryz.prog w base spare held 34 (.agg a) d p) : ∃ (x : ExD) (q : Option Addr) (c : Nat),Value.agg a = .agg (exC x q c).toArray ∧ (SlR evE w q x.ev ∧ WX x) := by
 obtain ⟨fuel,h⟩ := h
 obtain ⟨x,q,c,hr,hc⟩ := opens_exec _ _ _ h
 have : a.toList = exC x q c := hc
 exact ⟨x,q,c,by rw [← this],hr⟩
end
end Go.Proofs.YtkpcgpmimejimaaGreatDoor
namespace Go.Proofs.YtkpcgpmimejimaaGreatDoor
open Go.Vc Go.RowKit Go.Sei
open Go.ChangeShapes Go.WideShapes Go.ChangeAt
structure GlobM (W : World) : Prop where
 t32 : Tz32M W
 t64 : Tz64M W
 needs : GlobC W
abbrev seatLaidM : List (String × DataW Unit) := [("math/bits.deBruijn32tab", Rows.laid_math_bits_deBruijn32tab), ("math/bits.deBruijn64tab", Rows.laid_math_bits_deBruijn64tab), ("seisin/check.needs", Rows.laid_seisin_check_needs)]
theorem globM_of_laid {W : World} (h : laidMetH Tryz.prog seatLaidM W) (hsh : W.ShapedOpen Tryz.prog) : GlobM W := by
 have h0 : laidMet Tryz.prog seatLaidM W := h
 have h1 := h0.tail
 have h2 := h1.tail
 have t32 : Tz32M W := by
  obtain ⟨ps,⟨g',t',cs,fuel,p,q,hg',ht',hv,hd,_,_⟩,_⟩ := h0
  obtain rfl := Option.some.inj ((show Tryz.prog.globalNamed "math/bits.deBruijn32tab" = some 2 by kernel_rfl).symm.trans hg')
  obtain rfl := Option.some.inj ((show (Tryz.prog.globals[2]?).map (·.type) = some 266 by kernel_rfl).symm.trans ht')
  obtain ⟨bs,h1,h2,h3⟩ := open_u8s Tryz.underlying266 Tryz.underlying5 (by kernel_rfl) (by kernel_rfl) hd
  have hbs : bs = tz32L := by
   have e : (Rows.laid_math_bits_deBruijn32tab : DataW Unit) = .agg (tz32L.map fun b => .lit (.int .u8 b.toNat)) := rfl
   exact lits_inj (DataW.agg.inj (h3.symm.trans e))
  subst hbs
  refine cells_mk fun i v hvv => ?_
  have hc := World.var?_cell hg' hv i
  rw [← hvv,← h2]
  simpa using hc
 have t64 : Tz64M W := by
  obtain ⟨ps,⟨g',t',cs,fuel,p,q,hg',ht',hv,hd,_,_⟩,_⟩ := h1
  obtain rfl := Option.some.inj ((show Tryz.prog.globalNamed "math/bits.deBruijn64tab" = some 0 by kernel_rfl).symm.trans hg')
  obtain rfl := Option.some.inj ((show (Tryz.prog.globals[0]?).map (·.type) = some 175 by kernel_rfl).symm.trans ht')
  obtain ⟨bs,h1,h2,h3⟩ := open_u8s Tryz.underlying175 Tryz.underlying5 (by kernel_rfl) (by kernel_rfl) hd
  have hbs : bs = tz64L := by
   have e : (Rows.laid_math_bits_deBruijn64tab : DataW Unit) = .agg (tz64L.map fun b => .lit (.int .u8 b.toNat)) := rfl
   exact lits_inj (DataW.agg.inj (h3.symm.trans e))
  subst hbs
  refine cells_mk fun i v hvv => ?_
  have hc := World.var?_cell hg' hv i
  rw [← hvv,← h2]
  simpa using hc
 have needs : GlobC W := by
  obtain ⟨ps,⟨g',t',cs,fuel,p,q,hg',ht',hv,hd,_,_⟩,_⟩ := h2
  obtain rfl := Option.some.inj ((show Tryz.prog.globalNamed "seisin/check.needs" = some 1 by kernel_rfl).symm.trans hg')
  obtain rfl := Option.some.inj ((show (Tryz.prog.globals[1]?).map (·.type) = some 256 by kernel_rfl).symm.trans ht')
  obtain ⟨bs,h1,h2,h3⟩ := open_u8s Tryz.underlying256 Tryz.underlying5 (by kernel_rfl) (by kernel_rfl) hd
  have hbs : bs = needL := by
   match bs,h1 with
   | [b0,b1,b2,b3,b4,b5,b6,b7,b8],_ =>
    simp only [Rows.laid_seisin_check_needs,List.map_cons,List.map_nil,DataW.agg.injEq,List.cons.injEq,DataW.lit.injEq,Lit.int.injEq,true_and,and_true] at h3
    simp only [needL,List.cons.injEq,and_true]
    obtain ⟨a0,a1,a2,a3,a4,a5,a6,a7,a8⟩ := h3
    refine ⟨?_,?_,?_,?_,?_,?_,?_,?_,?_⟩ <;> (apply UInt8.toNat_inj.1; simp; omega)
  subst hbs
  refine cells_mk fun i v hvv => ?_
  have hc := World.var?_cell hg' hv i
  rw [← hvv,← h2]
  simpa using hc
 exact ⟨t32,t64,needs⟩
def lit1M : DataW Unit → List Value
 | .lit (.int k n) => [.int k n]
 | .lit (.string s) => [.string ⟨s.toArray⟩]
 | _ => []
def lit2M : DataW Unit → List Value
 | .agg ps => ps.flatMap lit1M
 | x => lit1M x
def setGM (h : Array Obj) (g : Nat) (cs : List Value) : Array Obj := h.modify g fun
 | .cells _ t frozen => .cells cs.toArray t frozen
 | o => o
def layHM (h : Array Obj) : Array Obj :=
 let h1 := setGM h 2 (lit2M Rows.laid_math_bits_deBruijn32tab)
 let h2 := setGM h1 0 (lit2M Rows.laid_math_bits_deBruijn64tab)
 setGM h2 1 (lit2M Rows.laid_seisin_check_needs)
noncomputable def laidWorldM (os : Os) : World :=
 { World.holding Tryz.prog os ⟨#[],#[],[]⟩ with heap := layHM (World.holding Tryz.prog os ⟨#[],#[],[]⟩).heap }
theorem laidWorldM_met (os : Os) (args : Array Value) : laidMetH Tryz.prog seatLaidM ((laidWorldM os).forCall (fun _ _ => 0) ⟨#[],args,[]⟩).memory := by
 show laidMet Tryz.prog seatLaidM _
 exact laidMet_of_run' 8 (by kernel_rfl) (by kernel_rfl)
end Go.Proofs.YtkpcgpmimejimaaGreatDoor
