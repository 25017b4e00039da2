/- Contracts: executions checked (cand.Right). Contracts: small functions of the models: pairs, the relation of a closure, unions. Contracts: what the models ask of two events. Contracts: from-reads, what is fenced, what leads to another thread. Plain: the pairs of relations that are built from others; acyclic relations. Plain: a weaker model allows what a stronger one allows, and preserves no more. Plain: what the parts of an execution's relations lead to. Contracts: relations of one thread, of several; of one location; from-reads, as they are told. Contracts: what fences separate. Contracts: the rules of the models. (Printed by tools/gen_rules.py.). Contracts: the program order that a model preserves. Contracts: the axioms of the models. Contracts: what the models tell of an execution: Kept, Fr, Loc, Ext, Int, Fenced. Contracts: law 10's own programs; the candidates that are looked for. Contracts: the candidates that law 10 looks for; what the models say of one. Contracts: what the models say of a candidate, asked one by one; the law's examples. -/
import Derived.Test.YtkpcgpmimejimaaGreatDoorZ6
set_option linter.unusedSimpArgs false
set_option linter.unusedVariables false
namespace Go.Proofs.YtkpcgpmimejimaaGreatDoor
open Go.Vc Go.RowKit Go.Sei
theorem evs_init {locs : Nat} : ∀ (ev : List Ev) (i : Nat) (t : Int) (n : Nat),evGo locs i ev t n = true → ∀ j,i + j < locs → j < ev.length → ∃ v,ev.getD j ev0 = ⟨-1,2,UInt8.ofNat (i + j),v,0,0,0⟩
 | [],_,_,_,_,_,_,h => by simp at h
 | e :: ev,i,t,n,h,j,hj,hl => by
  unfold evGo at h
  rw [if_pos (by omega : i < locs)] at h
  by_cases he : e = ⟨-1,2,UInt8.ofNat i,e.v,0,0,0⟩
  ·rw [if_pos he] at h
   cases j with
   | zero => exact ⟨e.v,by rw [Nat.add_zero]; exact he⟩
   | succ j =>
    obtain ⟨v,hv⟩ := evs_init ev (i + 1) t n h j (by omega) (by simpa using hl)
    exact ⟨v,by rw [show i + (j + 1) = i + 1 + j by omega]; exact hv⟩
  ·rw [if_neg he] at h; cases h
theorem inits_le (ev : List Ev) : initsN ev ≤ ev.length := by
 unfold initsN
 induction ev with
 | nil => exact Nat.le_refl _
 | cons e ev ih =>
  rw [List.takeWhile_cons]
  split
  ·rw [List.length_cons,List.length_cons]; omega
  ·exact Nat.zero_le _
theorem wrs_some {x : ExD} {locs : Nat} (h : evsRight x.ev locs = true) (hl : locs ≤ x.ev.length) (h6 : locs ≤ 6) : ∀ l,l < locs → wrsOf x l ≠ [] := by
 intro l hll he
 obtain ⟨v,hv⟩ := evs_init x.ev 0 0 0 h l (by omega) (by omega)
 have : l ∈ wrsOf x l := by
  unfold wrsOf
  rw [List.mem_filter,List.mem_range]
  refine ⟨by omega,?_⟩
  have h2 : evA x l = ⟨-1,2,UInt8.ofNat (0 + l),v,0,0,0⟩ := hv
  rw [h2,Bool.and_eq_true,decide_eq_true_eq,decide_eq_true_eq]
  refine ⟨rfl,?_⟩
  show (UInt8.ofNat (0 + l)).toNat = l
  rw [Nat.zero_add,UInt8.toNat_ofNat']
  exact Nat.mod_eq_of_lt (by omega)
 rw [he] at this
 cases this
abbrev relsL (x : ExD) : List RelD := [x.po,x.rf,x.co,x.dt,x.ct,x.rm]
theorem exC_rel (x : ExD) (q : Option Addr) (c : Nat) {i : Nat} (hi : i < 6) : ((exC x q c).drop (1 + 49 * i)).take 49 = relC ((relsL x).getD i x.po) := by
 have g : ∀ {A T : List Value} {o : Nat} {r : RelD},A.length = o → exC x q c = A ++ (relC r ++ T) → ((exC x q c).drop o).take 49 = relC r := fun {A T o r} hA hE => by
  rw [hE,← hA,List.drop_left,List.take_append_of_le_length (by rw [relC_len]; decide),List.take_of_length_le (by rw [relC_len]; decide)]
 match i,hi with
 | 0,_ => obtain ⟨A,T,hA,hE⟩ := ex_po x q c []; exact g hA (by rw [← hE,List.append_nil]; rfl)
 | 1,_ => obtain ⟨A,T,hA,hE⟩ := ex_rf x q c []; exact g hA (by rw [← hE,List.append_nil]; rfl)
 | 2,_ => obtain ⟨A,T,hA,hE⟩ := ex_co x q c []; exact g hA (by rw [← hE,List.append_nil]; rfl)
 | 3,_ => obtain ⟨A,T,hA,hE⟩ := ex_dt x q c []; exact g hA (by rw [← hE,List.append_nil]; rfl)
 | 4,_ => obtain ⟨A,T,hA,hE⟩ := ex_ct x q c []; exact g hA (by rw [← hE,List.append_nil]; rfl)
 | 5,_ => obtain ⟨A,T,hA,hE⟩ := ex_rm x q c []; exact g hA (by rw [← hE,List.append_nil]; rfl)
theorem ptrs_at (L : Nat) {k : Nat} (hk : k < 6) : ((List.range 6).map (fun i => Value.pointer (some ⟨L,0 + (1 + 49 * i),none⟩)))[k]? = some (.pointer (some ⟨L,0 + (1 + 49 * k),none⟩)) := by
 rw [List.getElem?_map,List.getElem?_range hk]; rfl
def okX (x : ExD) (r : RelD) : Bool := decide (r.n = x.ev.length) && okR r
section
variable {c : Nat} {x : ExD} {q : Option Addr} {w : World}
theorem rel_cells {X : World} {b : Nat} (fx : ExH X b x q c) {i : Nat} (hi : i < 6) : Cells X ⟨b,0 + (1 + 49 * i),none⟩ (relC ((relsL x).getD i x.po)) := by
 have h := cells_sub (n := 1 + 49 * i) (m := 49) (cells_block fx)
 rw [show (exC x q c).toArray.toList = exC x q c from rfl,exC_rel x q c hi] at h
 exact h
theorem ExV.rel (hv : ExV w x q) {i : Nat} (hi : i < 6) : WrdR ((relsL x).getD i x.po).to := by
 match i,hi with
 | 0,_ => exact hv.po
 | 1,_ => exact hv.rf
 | 2,_ => exact hv.co
 | 3,_ => exact hv.dt
 | 4,_ => exact hv.ct
 | 5,_ => exact hv.rm
theorem RightX_c (hv : ExV w x q) (hT : Tz64M w) : Calls Tryz.prog 11 #[.agg (exC x q c).toArray] w fun e w' => e = .returned (.bool (rightX x)) ∧ Below w.heap.size w w' := by
 refine calls_of_M (S := sg 70) (sgOk _) (args := [.agg (exC x q c).toArray]) (.c .p (.c .p (.c .p (.c .p (.c .p .p))))) Tryz.func11 rfl rfl (Nat.le_of_ble_eq_true rfl) rfl ?_
 obtain ⟨L,hL⟩ : ∃ L,L = w.heap.size := ⟨_,rfl⟩
 have hn := hv.n
 refine ⟨Unit,fun _ => ⟨[(1,At0 L)],[]⟩,fun _ X => ExH X L x q c ∧ Below w.heap.size w X,⟨(),⟨.cons (by rw [hL]; rfl) .nil,rfl⟩,by rw [hL]; exact hnew w _,(Below.refl _ w).alloc (Nat.le_refl _) _⟩,?_⟩
 rintro _ X ⟨fx,hbX⟩
 obtain ⟨n,hnn⟩ : ∃ n,n = initsN x.ev := ⟨_,rfl⟩
 refine ⟨Unit,fun _ => ⟨[(1,At0 L)],[]⟩,fun _ Y => X = Y,?_,?_⟩
 ·refine ⟨_,cells_at (cells_block fx) (i := 0) rfl,?_⟩
  refine And.intro (fun h => ?_) (fun _ => ?_)
  ·have h : (48 : Int) < (x.ev.length : Nat) := of_decide_eq_true h
   omega
  exact ⟨(),⟨.cons rfl .nil,rfl⟩,rfl⟩
 rintro _ _ rfl
 refine ⟨Unit,fun _ => ⟨[(1,At0 L),(3,i64 (n : Nat))],[]⟩,fun _ Y => Below X.heap.size X Y,?_,?_⟩
 ·refine ⟨_,cells_at (cells_block fx) (i := 0) rfl,?_⟩
  refine Calls.mono (initials_c (hv.below hbX).ev (by omega)) ?_
  rintro e Y ⟨rfl,hbY⟩
  rw [← hnn]
  exact ⟨(),⟨.cons rfl (.cons rfl .nil),rfl⟩,hbY⟩
 rintro _ Y hbY
 have hvX := hv.below hbX
 have hnl : n ≤ x.ev.length := by rw [hnn]; exact inits_le _
 have hbwY := hbX.trans (hbY.mono hbX.size)
 have hr0 : decide (x.ev.length ≤ 48) = true := decide_eq_true (by omega)
 have no : ∀ {Z : World},Below w.heap.size w Z → rightX x = false → (Ending.returned (.bool false) = Ending.returned (.bool (rightX x)) ∧ Below w.heap.size w Z) := fun {Z} hb h => ⟨rb h.symm,hb⟩
 refine ⟨Unit,fun _ => ⟨[(1,At0 L),(3,i64 (n : Nat))],[]⟩,fun _ Z => evsRight x.ev n = true ∧ (1 ≤ n ∧ n ≤ 6) ∧ ExH Z L x q c ∧ Below w.heap.size w Z,?_,?_⟩
 ·refine And.intro (fun h1 => ?_) (fun h1 => ?_)
  ·have h1 : (n : Int) < 1 := of_decide_eq_true h1
   refine brT ?_
   refine brT ?_
   refine no hbwY ?_
   unfold rightX
   rw [← hnn,decide_eq_false (by omega : ¬ 1 ≤ n),Bool.false_and,Bool.and_false]
  have h1 : ¬ (n : Int) < 1 := of_decide_eq_false h1
  refine And.intro (fun h2 => ?_) (fun h2 => ?_)
  ·have h2 : (6 : Int) < (n : Int) := of_decide_eq_true h2
   refine brT ?_
   refine no hbwY ?_
   unfold rightX
   rw [← hnn,decide_eq_false (by omega : ¬ n ≤ 6),Bool.false_and,Bool.and_false,Bool.and_false]
  have h2 : ¬ (6 : Int) < (n : Int) := of_decide_eq_false h2
  have hn1 : decide (1 ≤ n) = true := decide_eq_true (by omega)
  have hn6 : decide (n ≤ 6) = true := decide_eq_true (by omega)
  have fY := block_below hbY fx
  refine ⟨_,cells_at (cells_block fY) (i := 0) rfl,?_⟩
  refine Calls.mono (eventsRight_c (locs := n) (hvX.below hbY).ev (by omega) (by omega)) ?_
  rintro e Z ⟨rfl,hbZ⟩
  have hbwZ := hbwY.trans (hbZ.mono hbwY.size)
  refine And.intro (fun h3 => ?_) (fun h3 => ?_)
  ·have h3 : evsRight x.ev n = false := by
    have h3 : (!evsRight x.ev n) = true := h3
    simpa using h3
   refine no hbwZ ?_
   unfold rightX
   rw [← hnn,h3,Bool.false_and,Bool.and_false,Bool.and_false,Bool.and_false]
  have h3 : evsRight x.ev n = true := by
   have h3 : (!evsRight x.ev n) = false := h3
   simpa using h3
  exact ⟨(),⟨.cons rfl (.cons rfl .nil),rfl⟩,h3,by omega,block_below hbZ fY,hbwZ⟩
 rintro _ Z ⟨h3,⟨h1,h2⟩,fZ,hbwZ⟩
 clear fx hbX hbY hbwY hvX
 have hn1 : decide (1 ≤ n) = true := decide_eq_true h1
 have hn6 : decide (n ≤ 6) = true := decide_eq_true h2
 have hright : rightX x = (relsRight x && (relEq x.po (poR x.ev) && (rfRight x && (coRight x n && depRight x)))) := by
  unfold rightX
  rw [← hnn,hr0,hn1,hn6,h3]; rfl
 have hrels : relsRight x = (relsL x).all (okX x) := rfl
 refine ⟨Unit,fun _ => ⟨[(1,At0 L),(3,i64 (n : Nat))],[]⟩,fun _ U => relsRight x = true ∧ ExH U L x q c ∧ Below w.heap.size w U,?_,?_⟩
 ·refine ⟨⟨by decide,by decide,rfl⟩,(List.range 6).map (fun i => Value.pointer (some ⟨L,0 + (1 + 49 * i),none⟩)),rfl,?_⟩
  obtain ⟨g,hg⟩ : ∃ g,g = Z.heap.size := ⟨_,rfl⟩
  refine ⟨Nat,fun k => ⟨[(1,At0 L),(3,i64 (n : Nat)),(32,.slice (some ⟨g,0,none⟩) 6 6),(33,i64 6),(34,i64 (k : Nat))],[]⟩,fun k U => k ≤ 6 ∧ ((relsL x).take k).all (okX x) = true ∧ U.heap[g]? = some (.cells ((List.range 6).map (fun i => Value.pointer (some ⟨L,0 + (1 + 49 * i),none⟩))).toArray 77 (0,0)) ∧ ExH U L x q c ∧ Below w.heap.size w U,fun k => 6 - k,0,
   ⟨.cons rfl (.cons rfl (.cons (by rw [hg]; rfl) (.cons rfl (.cons rfl .nil)))),rfl⟩,⟨Nat.zero_le _,rfl,by rw [hg]; exact hnew Z _,hold _ fZ,hbwZ.alloc hbwZ.size _⟩,?_⟩
  clear hg fZ hbwZ
  rintro k U ⟨hk,hall,fg,fU,hbU⟩
  dsimp only
  refine And.intro (fun hc => ?_) (fun hc => ?_)
  ·have hc : (k : Int) < 6 := of_decide_eq_true hc
   have hk6 : k < 6 := by omega
   obtain ⟨r,hr⟩ : ∃ r,r = (relsL x).getD k x.po := ⟨_,rfl⟩
   have hkl : k < (relsL x).length := hk6
   have htk : (relsL x).take (k + 1) = (relsL x).take k ++ [r] := by
    rw [List.take_succ_eq_append_getElem hkl,hr,List.getD_eq_getElem?_getD,List.getElem?_eq_getElem hkl]; rfl
   have hrw : WrdR r.to := by rw [hr]; exact hv.rel hk6
   have hcel : Cells U ⟨L,0 + (1 + 49 * k),none⟩ (relC r) := by rw [hr]; exact rel_cells fU hk6
   have dU : Below U.heap.size U U.drew := (Below.refl _ _).drew
   have hrm : r ∈ relsL x := by
    rw [hr,List.getD_eq_getElem?_getD,List.getElem?_eq_getElem hkl]
    exact List.getElem_mem hkl
   have bad : ∀ {Z : World},Below w.heap.size w Z → okX x r = false → (Ending.returned (.bool false) = Ending.returned (.bool (rightX x)) ∧ Below w.heap.size w Z) := fun {Z} hb h => no hb (by
    have : relsRight x = false := by
     rw [hrels,List.all_eq_false]
     exact ⟨r,hrm,by rw [h]; decide⟩
    rw [hright,this]; rfl)
   refine ⟨k,rfl,hk6,?_⟩
   refine ⟨.pointer (some ⟨L,0 + (1 + 49 * k),none⟩),by
    have := cells_at (cells_block fg) (i := k * 1) (v := .pointer (some ⟨L,0 + (1 + 49 * k),none⟩)) (by
     rw [Nat.mul_one]
     exact ptrs_at L hk6)
    exact this,?_⟩
   refine DrawE.ord [] [0,1,2,3,4,5,6,7,8,9,10,11,12,13,14] (by kernel_rfl) ?_
   refine ⟨i64 r.n,cells_at (cells_below dU hcel) (i := 0) rfl,?_⟩
   refine ⟨_,cells_at (cells_block (hdr fU)) (i := 0) rfl,?_⟩
   refine And.intro (fun h4 => ?_) (fun h4 => ?_)
   ·have h4 : (!decide (r.n = (x.ev.length : Int))) = true := h4
    have h4 : ¬ r.n = (x.ev.length : Int) := by simpa using h4
    refine brT ?_
    exact bad (hbU.trans (dU.mono hbU.size)) (by unfold okX; rw [decide_eq_false h4]; rfl)
   have h4 : (!decide (r.n = (x.ev.length : Int))) = false := h4
   have h4 : r.n = (x.ev.length : Int) := by simpa using h4
   refine ⟨relC r,relC_len _,cells_below dU hcel,hlt (hdr fU),?_⟩
   refine Calls.mono (rel_Right_c hrw) ?_
   rintro e V ⟨rfl,hbV⟩
   refine ⟨hbV,?_⟩
   have hbV2 := hbU.trans ((dU.trans hbV).mono hbU.size)
   refine And.intro (fun h5 => ?_) (fun h5 => ?_)
   ·have h5 : okR r = false := by
     have h5 : (!okR r) = true := h5
     simpa using h5
    exact bad hbV2 (by unfold okX; rw [h5,Bool.and_false])
   have h5 : okR r = true := by
    have h5 : (!okR r) = false := h5
    simpa using h5
   refine ⟨((k + 1 : Nat) : Int),(wrap_i64 (by omega)).trans (by omega),?_⟩
   refine ⟨k + 1,⟨.cons rfl (.cons rfl (.cons rfl (.cons rfl (.cons rfl .nil)))),rfl⟩,⟨hk6,?_,block_below (dU.trans hbV) fg,block_below (dU.trans hbV) fU,hbV2⟩,by show 6 - (k + 1) < 6 - k; omega⟩
   rw [htk,List.all_append,hall]
   show (true && (okX x r && true)) = true
   unfold okX
   rw [decide_eq_true h4,h5]; rfl
  ·have hc : ¬ (k : Int) < 6 := of_decide_eq_false hc
   obtain rfl : k = 6 := by omega
   exact ⟨(),⟨.cons rfl (.cons rfl .nil),rfl⟩,hall,fU,hbU⟩
 rintro _ U ⟨hrr,fU,hbU⟩
 rw [hrr,Bool.true_and] at hright
 have hall : ∀ r ∈ relsL x,r.n = x.ev.length ∧ okR r = true := fun r hr => by
  rw [hrels,List.all_eq_true] at hrr
  have := hrr r hr
  unfold okX at this
  rw [Bool.and_eq_true,decide_eq_true_eq] at this
  exact this
 have hrf := hall x.rf (by simp)
 have hrm := hall x.rm (by simp)
 have hvU := hv.below hbU
 have dU : Below U.heap.size U U.drew := (Below.refl _ _).drew
 have hvD := hvU.below dU
 have hbD := hbU.trans (dU.mono hbU.size)
 refine DrawE.ord [] [0,1,2,3,4,5,6,7,8,9,10,11,12,13,14,15,16] (by kernel_rfl) ?_
 refine ⟨relC x.po,relC_len _,rel_cells (hdr fU) (i := 0) (by decide),hlt (hdr fU),?_⟩
 refine ⟨_,cells_at (cells_block (hdr fU)) (i := 0) rfl,?_⟩
 refine Calls.mono (programOrder_c hvD.ev (by omega)) ?_
 rintro e V ⟨rfl,hbV⟩
 refine ⟨hbV,?_⟩
 have hbV2 := hbD.trans (hbV.mono hbD.size)
 have fV := block_below hbV (hdr fU)
 have hvV := hvD.below hbV
 refine ⟨_,fun w => eql_rel _ _ x.po (poR x.ev) w,?_⟩
 refine And.intro (fun h4 => ?_) (fun h4 => ?_)
 ·have h4 : relEq x.po (poR x.ev) = true := h4
  rw [h4,Bool.true_and] at hright
  refine Calls.mono (rfRight_c fV hvV hrf.1 hrf.2 (hT.below hbV2)) ?_
  rintro e T ⟨rfl,hbT⟩
  refine ⟨hbT,?_⟩
  have hbT2 := hbV2.trans (hbT.mono hbV2.size)
  refine And.intro (fun h5 => ?_) (fun h5 => ?_)
  ·have h5 : rfRight x = true := h5
   rw [h5,Bool.true_and] at hright
   refine Calls.mono (coRight_c (locs := n) (block_below hbT fV) (hvV.below hbT) (by omega) (wrs_some h3 hnl (by omega)) (hT.below hbT2)) ?_
   rintro e R ⟨rfl,hbR⟩
   refine ⟨hbR,?_⟩
   have hbR2 := hbT2.trans (hbR.mono hbT2.size)
   refine And.intro (fun h6 => ?_) (fun h6 => ?_)
   ·have h6 : coRight x n = true := h6
    rw [h6,Bool.true_and] at hright
    refine Calls.mono (depRight_c (block_below hbR (block_below hbT fV)) ((hvV.below hbT).below hbR) hrm.1 hrm.2 (hT.below hbR2)) ?_
    rintro e Q ⟨rfl,hbQ⟩
    exact ⟨hbQ,rb hright.symm,hbR2.trans (hbQ.mono hbR2.size)⟩
   ·have h6 : coRight x n = false := h6
    rw [h6,Bool.false_and] at hright
    exact ⟨rb hright.symm,hbR2⟩
  ·have h5 : rfRight x = false := h5
   rw [h5,Bool.false_and] at hright
   refine brF ?_
   exact ⟨rb hright.symm,hbT2⟩
 ·have h4 : relEq x.po (poR x.ev) = false := h4
  rw [h4,Bool.false_and] at hright
  refine brF ?_
  refine brF ?_
  exact ⟨rb hright.symm,hbV2⟩
end
end Go.Proofs.YtkpcgpmimejimaaGreatDoor
namespace Go.Proofs.YtkpcgpmimejimaaGreatDoor
open Go.Vc Go.RowKit Go.Sei
theorem comb_wrd {a b : RelD} {f : Nat → Nat} (h : a.n = b.n → okR a = true → okR b = true → ∀ i,i < 48 → f i < 2 ^ 64) : WrdR (comb a b f).1.to := by
 unfold comb
 split
 ·rename_i hc
  rw [Bool.and_eq_true,Bool.and_eq_true,decide_eq_true_eq] at hc
  exact build_wrd fun i _ hi => h hc.1 hc.2.1 hc.2.2 i hi
 ·exact fun i _ => (by show 0 < 2 ^ 64; decide)
theorem union_wrd {a b : RelD} (ha : WrdR a.to) (hb : WrdR b.to) : WrdR (unionR a b).1.to := comb_wrd fun _ _ _ i hi => Nat.or_lt_two_pow (ha i hi) (hb i hi)
theorem both_wrd {a b : RelD} (ha : WrdR a.to) : WrdR (bothR a b).1.to := comb_wrd fun _ _ _ i hi => Nat.lt_of_le_of_lt Nat.and_le_left (ha i hi)
theorem then_wrd {a b : RelD} (ha : WrdR a.to) (hb : WrdR b.to) : WrdR (thenR a b).1.to := comb_wrd fun _ h _ i hi => by
 unfold imageR
 exact image_lt hb _ _ (by decide) fun j hj => (okR_els h ha hi j hj).2
theorem minus_wrd {a b : RelD} (ha : WrdR a.to) : WrdR (minusR a b).1.to := comb_wrd fun _ _ _ i hi => by
 rw [lessM_eq]
 exact lessN_lt (ha i hi)
theorem rowP_succ (k : Nat) (p : Nat → Bool) : rowP (k + 1) p = if p k = true then rowP k p ||| 2 ^ k else rowP k p := by
 unfold rowP
 rw [List.range_succ,List.foldl_append]; rfl
theorem rowP_lt (p : Nat → Bool) : ∀ k,k ≤ 64 → rowP k p < 2 ^ 64
 | 0,_ => by show 0 < _; decide
 | k + 1,h => by
  rw [rowP_succ]
  split
  ·exact Nat.or_lt_two_pow (rowP_lt p k (by omega)) (pow_lt64 (by omega))
  ·exact rowP_lt p k (by omega)
theorem pick_wrd {n : Nat} {p : Nat → Nat → Bool} (hn : n ≤ 64) : WrdR (pickM n p).to := build_wrd fun i _ _ => rowP_lt _ n hn
def rowsG (n : Nat) (p : Nat → Nat → Bool) (a k : Nat) : Nat → Nat := fun i => if i < a then rowP n (p i) else if i = a then rowP k (p a) else 0
theorem rowsG_at (n : Nat) (p : Nat → Nat → Bool) (a k : Nat) : rowsG n p a k a = rowP k (p a) := by
 unfold rowsG
 rw [if_neg (by omega),if_pos rfl]
theorem rowsG_put {n : Nat} {p : Nat → Nat → Bool} {a k : Nat} (h : p a k = true) : upd (rowsG n p a k) a (rowsG n p a k a ||| 2 ^ k) = rowsG n p a (k + 1) := by
 funext i
 by_cases hi : i = a
 ·subst hi
  rw [upd_same,rowsG_at,rowsG_at,rowP_succ,if_pos h]
 ·rw [upd_ne _ _ hi]
  unfold rowsG
  rw [if_neg hi,if_neg hi]
theorem rowsG_skip {n : Nat} {p : Nat → Nat → Bool} {a k : Nat} (h : p a k = false) : rowsG n p a k = rowsG n p a (k + 1) := by
 have e : rowP (k + 1) (p a) = rowP k (p a) := by rw [rowP_succ,if_neg (by rw [h]; decide)]
 funext i
 unfold rowsG
 rw [e]
theorem rowsG_next (n : Nat) (p : Nat → Nat → Bool) (a : Nat) : rowsG n p a n = rowsG n p (a + 1) 0 := by
 funext i
 unfold rowsG
 by_cases h1 : i < a
 ·rw [if_pos h1,if_pos (by omega)]
 ·by_cases h2 : i = a
  ·subst h2
   rw [if_neg h1,if_pos rfl,if_pos (by omega)]
  ·rw [if_neg h1,if_neg h2,if_neg (by omega)]
   split
   ·rfl
   ·rfl
theorem rowsG_zero (n : Nat) (p : Nat → Nat → Bool) : rowsG n p 0 0 = fun _ => 0 := by
 funext i
 unfold rowsG
 rw [if_neg (by omega)]
 split <;> rfl
theorem rowsG_end (n : Nat) (p : Nat → Nat → Bool) : rowsG n p n 0 = (pickM n p).to := by
 funext i
 unfold rowsG pickM buildR
 show _ = if i < n then _ else 0
 by_cases h : i < n
 ·rw [if_pos h,if_pos h]
 ·rw [if_neg h,if_neg h]
  split <;> rfl
theorem rowsG_wrd {n : Nat} {p : Nat → Nat → Bool} {a k : Nat} (hn : n ≤ 64) (hk : k ≤ 64) : WrdR (rowsG n p a k) := fun i _ => by
 unfold rowsG
 split
 ·exact rowP_lt _ n hn
 ·split
  ·exact rowP_lt _ k hk
  ·decide
theorem bit_one {s b : Nat} : decide ((((s / 2 ^ b &&& 1 : Nat) : Nat) : Int) = 1) = s.testBit b := by
 rw [bit_div]
 cases s.testBit b <;> rfl
section
variable {w : World}
theorem hasPair_c {b o a d : Nat} {r : RelD} (hc : ∀ i,i < 48 → w.cell? ⟨b,o + 1 + i * 1,none⟩ = some (s64 (r.to i))) (hr : WrdR r.to) (ha : a < 48) (hd : d < 48) :
  Calls Tryz.prog 44 #[.pointer (some ⟨b,o,none⟩),i64 (a : Nat),i64 (d : Nat)] w fun e w' => e = .returned (.bool (hasM r a d)) ∧ w = w' := by
 refine calls_of_E (S := sg 17) (sgOk _) (args := [.pointer (some ⟨b,o,none⟩),i64 (a : Nat),i64 (d : Nat)]) Tryz.func44 rfl rfl (Nat.le_of_ble_eq_true rfl) rfl ?_
 refine ⟨a,rfl,ha,?_⟩
 refine ⟨_,hc a ha,?_⟩
 refine ⟨by omega,_,w64_shr (a := r.to a) (k := d) (by omega),?_⟩
 refine ⟨_,w64_and (a := r.to a / 2 ^ d) (b := 1) (Nat.lt_of_le_of_lt (Nat.div_le_self _ _) (hr a ha)) (by decide),?_⟩
 exact ⟨rb bit_one,rfl⟩
theorem access_c {e : Ev} : Calls Tryz.prog 61 #[.agg (evE.enc e).toArray] w fun r w' => r = .returned (.bool (decide (e.k = 1) || decide (e.k = 2))) ∧ Below w.heap.size w w' := by
 refine calls_of_E (S := sg 11) (sgOk _) (args := [.agg (evE.enc e).toArray]) Tryz.func61 rfl rfl (Nat.le_of_ble_eq_true rfl) rfl ?_
 have f := hnew w (.cells (evE.enc e).toArray 52)
 have hb : Below w.heap.size w (w.alloc (.cells (evE.enc e).toArray 52)) := (Below.refl _ w).alloc (Nat.le_refl _) _
 refine ⟨u8 e.k,cells_at (cells_block f) (i := 1) rfl,?_⟩
 refine And.intro (fun h => ?_) (fun h => ?_)
 ·have h : e.k = 1 := u8_eq.1 (of_decide_eq_true h)
  exact ⟨rb (by rw [decide_eq_true h]; rfl),hb⟩
 ·have h : ¬ e.k = 1 := fun e2 => (of_decide_eq_false h) (by rw [e2]; rfl)
  refine ⟨u8 e.k,cells_at (cells_block f) (i := 1) rfl,?_⟩
  refine ⟨rb ?_,hb⟩
  rw [decide_eq_false h,Bool.false_or]
  exact decide_eq_decide.2 (u8_eq (x := e.k) (y := 2))
theorem pick_c {n g : Nat} {caps : Array Value} {p : Nat → Nat → Bool} (hn : n ≤ 48) (hok : calleeOk (sg 0) g = true)
  (hp : ∀ a d X,a < n → d < n → Below w.heap.size w X → Calls Tryz.prog g (i64 (a : Nat) :: i64 (d : Nat) :: caps.toList).toArray X fun e Y => e = .returned (.bool (p a d)) ∧ Below X.heap.size X Y) :
  Calls Tryz.prog 42 #[i64 n,.func (.func g) #[] caps] w fun e w' => e = .returned (.agg (relC (pickM n p)).toArray) ∧ Below w.heap.size w w' := by
 refine calls_of_M (S := sg 34) (sgOk _) (args := [i64 n,.func (.func g) #[] caps]) (.c .p (.c .p (.c .p .p))) Tryz.func42 rfl rfl (Nat.le_of_ble_eq_true rfl) rfl ?_
 obtain ⟨L,hL⟩ : ∃ L,L = w.heap.size := ⟨_,rfl⟩
 refine ⟨Unit,fun _ => ⟨[(0,i64 n),(1,.func (.func g) #[] caps),(4,At0 L)],[]⟩,fun _ X => RelH X L zeroR ∧ X.heap.size = L + 1 ∧ Below w.heap.size w X,?_,?_⟩
 ·exact ⟨(),⟨.cons rfl (.cons rfl (.cons (by rw [hL]; rfl) .nil)),rfl⟩,by rw [hL]; exact hnew w _,by rw [hL]; exact World.size_alloc _ _,(Below.refl _ w).alloc (Nat.le_refl _) _⟩
 rintro _ X ⟨f0,sX,hbX⟩
 refine ⟨Unit,fun _ => ⟨[(0,i64 n),(1,.func (.func g) #[] caps),(4,At0 L),(5,At0 (L + 1))],[]⟩,fun _ Y => RelH Y (L + 1) ⟨n,rowsG n p 0 0⟩ ∧ Y.heap.size = L + 2 ∧ Below X.heap.size X Y,?_,?_⟩
 ·refine ⟨relC ⟨n,fun _ => 0⟩,by kernel_rfl,?_⟩
  refine store_new (X := X) (v := .agg (relC ⟨n,fun _ => 0⟩).toArray) (ttOk.get 27 _ rfl) (relC_len _) (by kernel_rfl) (relC_one _) fun Z hbZ fZ sZ => ?_
  rw [sX] at fZ sZ
  exact ⟨(),⟨.cons rfl (.cons rfl (.cons rfl (.cons (by rw [← sX]; rfl) .nil))),rfl⟩,by rw [rowsG_zero]; exact fZ,sZ,hbZ⟩
 rintro _ Y ⟨f1,sY,hbY⟩
 have hbwY := hbX.trans (hbY.mono hbX.size)
 have f0 := block_below hbY f0
 refine ⟨Unit,fun _ => ⟨[(4,At0 L),(5,At0 (L + 1))],[]⟩,fun _ Z => RelH Z (L + 1) (pickM n p) ∧ RelH Z L zeroR ∧ Below w.heap.size w Z,?_,?_⟩
 ·refine ⟨Nat,fun a => ⟨[(0,i64 n),(1,.func (.func g) #[] caps),(4,At0 L),(5,At0 (L + 1)),(10,i64 n),(11,i64 (a : Nat))],[]⟩,fun a Z => a ≤ n ∧ RelH Z (L + 1) ⟨n,rowsG n p a 0⟩ ∧ RelH Z L zeroR ∧ Below w.heap.size w Z,fun a => n - a,0,
   ⟨.cons rfl (.cons rfl (.cons rfl (.cons rfl (.cons rfl (.cons rfl .nil))))),rfl⟩,⟨Nat.zero_le _,f1,f0,hbwY⟩,?_⟩
  rintro a Z ⟨ha,f1,f0,hbZ⟩
  dsimp only at f1 ⊢
  refine And.intro (fun hc => ?_) (fun hc => ?_)
  ·have hc : (a : Int) < (n : Int) := of_decide_eq_true hc
   have han : a < n := by omega
   refine ⟨Nat,fun d => ⟨[(0,i64 n),(1,.func (.func g) #[] caps),(4,At0 L),(5,At0 (L + 1)),(6,i64 (a : Nat)),(10,i64 n),(11,i64 (a : Nat)),(14,i64 n),(15,i64 (d : Nat))],[]⟩,fun d V => d ≤ n ∧ RelH V (L + 1) ⟨n,rowsG n p a d⟩ ∧ RelH V L zeroR ∧ Below w.heap.size w V,fun d => n - d,0,
    ⟨.cons rfl (.cons rfl (.cons rfl (.cons rfl (.cons rfl (.cons rfl (.cons rfl (.cons rfl (.cons rfl .nil)))))))),rfl⟩,⟨Nat.zero_le _,f1,f0,hbZ⟩,?_⟩
   clear f1 f0 hbZ
   rintro d V ⟨hd,f1,f0,hbV⟩
   dsimp only at f1 ⊢
   refine And.intro (fun hc => ?_) (fun hc => ?_)
   ·have hc : (d : Int) < (n : Int) := of_decide_eq_true hc
    have hdn : d < n := by omega
    refine callE_mk hok (hp a d V han hdn hbV) ?_
    rintro e U ⟨rfl,hbU⟩
    refine ⟨_,rfl,?_⟩
    have f1 := block_below hbU f1
    have f0 := block_below hbU f0
    have hbU2 := hbV.trans (hbU.mono hbV.size)
    have sU := hbU2.size
    refine And.intro (fun h => ?_) (fun h => ?_)
    ·have h : p a d = true := h
     have hR : RelAt U (L + 1) 0 27 [] [] ⟨n,rowsG n p a d⟩ := ⟨rfl,by simpa using f1⟩
     have dU : Below U.heap.size U U.drew := (Below.refl _ _).drew
     have ha48 : a < 48 := by omega
     refine DrawE.ord [9] [0,1,2,3,4,5,6,7,8,9] (by kernel_rfl) ?_
     refine ⟨a,rfl,ha48,?_⟩
     refine ⟨s64 (rowsG n p a d a),(hR.same (Y := U.drew) rfl).cell ha48,?_⟩
     refine ⟨by omega,_,w64_one (e := d) (by omega),?_⟩
     refine ⟨_,w64_or (rowsG_wrd (by omega) (by omega) a ha48) (pow_lt64 (by omega)),?_⟩
     refine ⟨a,rfl,ha48,?_⟩
     refine store_one (ttOk.get 24 _ rfl) (hR.same (Y := U.drew) rfl).cells (o := 0 + 1 + a * 1) (v := s64 (rowsG n p a d a ||| 2 ^ d)) rfl rfl (by rw [hR.len]; omega) rfl fun S fS gS sS => ?_
     rw [hR.set ha48] at fS
     have e5 : upd (rowsG n p a d) a (rowsG n p a d a ||| 2 ^ d) = rowsG n p a (d + 1) := rowsG_put h
     dsimp only at fS
     rw [e5] at fS
     have gS2 : U.grownBy S (some (L + 1)) := grown_trans (grown_of_below dU) gS
     refine ⟨((d + 1 : Nat) : Int),(wrap_i64 (by omega)).trans (by omega),?_⟩
     exact ⟨d + 1,⟨.cons rfl (.cons rfl (.cons rfl (.cons rfl (.cons rfl (.cons rfl (.cons rfl (.cons rfl (.cons rfl .nil)))))))),rfl⟩,⟨hdn,by simpa using fS,(gS2.block L (hlt f0) (by simp)).trans f0,hbU2.trans (below_grown gS2 sU (by omega))⟩,by show n - (d + 1) < n - d; omega⟩
    ·have h : p a d = false := h
     refine ⟨((d + 1 : Nat) : Int),(wrap_i64 (by omega)).trans (by omega),?_⟩
     exact ⟨d + 1,⟨.cons rfl (.cons rfl (.cons rfl (.cons rfl (.cons rfl (.cons rfl (.cons rfl (.cons rfl (.cons rfl .nil)))))))),rfl⟩,⟨hdn,by rw [← rowsG_skip h]; exact f1,f0,hbU2⟩,by show n - (d + 1) < n - d; omega⟩
   ·have hc : ¬ (d : Int) < (n : Int) := of_decide_eq_false hc
    obtain rfl : d = n := by omega
    refine ⟨((a + 1 : Nat) : Int),(wrap_i64 (by omega)).trans (by omega),?_⟩
    exact ⟨a + 1,⟨.cons rfl (.cons rfl (.cons rfl (.cons rfl (.cons rfl (.cons rfl .nil))))),rfl⟩,⟨han,by rw [← rowsG_next]; exact f1,f0,hbV⟩,by show d - (a + 1) < d - a; omega⟩
  ·have hc : ¬ (a : Int) < (n : Int) := of_decide_eq_false hc
   obtain rfl : a = n := by omega
   rw [rowsG_end] at f1
   exact ⟨(),⟨.cons rfl (.cons rfl .nil),rfl⟩,f1,f0,hbZ⟩
 rintro _ Z ⟨f1,f0,hbZ⟩
 refine ⟨relC (pickM n p),relC_len _,cells_block f1,hlt f1,?_⟩
 refine store_box (v := .agg (relC (pickM n p)).toArray) (ttOk.get 27 _ rfl) f0 (relC_len _) (relC_len _) (relC_one _) ?_
 exact ⟨relC (pickM n p),relC_len _,cells_block (setRow_new f0),rfl,below_setRow hbZ (by omega) _⟩
def relE : Enc RelD := ⟨relC,49,relC_len,by decide,fun a u hu => List.all_eq_true.1 (relC_one a) u hu⟩
theorem unionL_wrd {l : List RelD} : ∀ {r : RelD},WrdR r.to → (∀ o ∈ l,WrdR o.to) → WrdR (unionL r l).to := by
 induction l with
 | nil => exact fun h _ => h
 | cons o l ih => exact fun h hl => ih (union_wrd h (hl o List.mem_cons_self)) fun x hx => hl x (List.mem_cons_of_mem _ hx)
theorem union_c {r : RelD} {l : List RelD} {pm : Option Addr} {cm : Nat} (hr : WrdR r.to) (hl : SlR relE w pm l) (hw : ∀ o ∈ l,WrdR o.to) (hn : l.length ≤ 1000) :
  Calls Tryz.prog 56 #[.agg (relC r).toArray,.slice pm l.length cm] w fun e w' => e = .returned (.agg (relC (unionL r l)).toArray) ∧ Below w.heap.size w w' := by
 refine calls_of_M (S := sg 21) (sgOk _) (args := [.agg (relC r).toArray,.slice pm l.length cm]) (.c .p (.c .p .p)) Tryz.func56 rfl rfl (Nat.le_of_ble_eq_true rfl) rfl ?_
 obtain ⟨L,hL⟩ : ∃ L,L = w.heap.size := ⟨_,rfl⟩
 refine ⟨Unit,fun _ => ⟨[(1,.slice pm l.length cm),(2,At0 L),(4,At0 (L + 1))],[]⟩,fun _ X => RelH X L r ∧ RelH X (L + 1) zeroR ∧ Below w.heap.size w X,?_,?_⟩
 ·have s1 := World.size_alloc w (.cells (relC r).toArray 27)
  have h2 := hnew (w.alloc (.cells (relC r).toArray 27)) (.cells (relC zeroR).toArray 27)
  rw [s1] at h2
  refine ⟨(),⟨.cons rfl (.cons (by rw [hL]; rfl) (.cons (by rw [hL,← s1]; rfl) .nil)),rfl⟩,by rw [hL]; exact hold _ (hnew w _),by rw [hL]; exact h2,((Below.refl _ w).alloc (Nat.le_refl _) _).alloc (by simp) _⟩
 rintro _ X ⟨f0,f1,hbX⟩
 refine ⟨Unit,fun _ => ⟨[(2,At0 L),(4,At0 (L + 1))],[]⟩,fun _ Z => RelH Z L (unionL r l) ∧ RelH Z (L + 1) zeroR ∧ Below w.heap.size w Z,?_,?_⟩
 ·refine ⟨Nat,fun k => ⟨[(2,At0 L),(4,At0 (L + 1)),(7,.slice pm l.length cm),(8,i64 l.length),(9,i64 (k : Nat))],[]⟩,fun k Z => k ≤ l.length ∧ RelH Z L (unionL r (l.take k)) ∧ RelH Z (L + 1) zeroR ∧ Below w.heap.size w Z,fun k => l.length - k,0,
   ⟨.cons rfl (.cons rfl (.cons rfl (.cons rfl (.cons rfl .nil)))),rfl⟩,⟨Nat.zero_le _,f0,f1,hbX⟩,?_⟩
  clear f0 f1 hbX
  rintro k Z ⟨hk,f0,f1,hbZ⟩
  dsimp only
  have hZs := hbZ.size
  refine And.intro (fun hc => ?_) (fun hc => ?_)
  ·have hc : (k : Int) < (l.length : Int) := of_decide_eq_true hc
   have hkl : k < l.length := by omega
   obtain ⟨b,o,rfl,hb,hat⟩ := hl.at hkl
   obtain ⟨t,ht⟩ : ∃ t,l[k] = t := ⟨_,rfl⟩
   have htm : t ∈ l := by rw [← ht]; exact List.getElem_mem hkl
   have htk : unionL r (l.take (k + 1)) = (unionR (unionL r (l.take k)) t).1 := by
    unfold unionL
    rw [List.take_succ_eq_append_getElem hkl,ht,List.foldl_append]; rfl
   have hut : WrdR (unionL r (l.take k)).to := unionL_wrd hr fun o ho => hw o (List.mem_of_mem_take ho)
   refine ⟨k,rfl,hkl,?_⟩
   refine ⟨relC t,relC_len _,by rw [← ht]; exact cells_below hbZ (hat k hkl),Nat.lt_of_lt_of_le hb hZs,?_⟩
   refine store_new (X := Z) (v := .agg (relC t).toArray) (ttOk.get 27 _ rfl) (relC_len _) (by kernel_rfl) (relC_one _) fun Y hbY fY sY => ?_
   have fY : RelH Y Z.heap.size t := fY
   have f0 := block_below hbY f0
   have f1 := block_below hbY f1
   refine ⟨relC (unionL r (l.take k)),relC_len _,cells_block f0,hlt f0,?_⟩
   refine ⟨relC t,relC_len _,cells_block fY,hlt fY,?_⟩
   refine Calls.mono (Union_c hut (hw t htm)) ?_
   rintro e V ⟨rfl,hbV⟩
   have f0 := block_below hbV f0
   have f1 := block_below hbV f1
   refine store_box (v := .agg (relC (unionR (unionL r (l.take k)) t).1).toArray) (ttOk.get 27 _ rfl) f0 (relC_len _) (relC_len _) (relC_one _) ?_
   refine ⟨((k + 1 : Nat) : Int),(wrap_i64 (by omega)).trans (by omega),?_⟩
   have hbV2 := (hbZ.trans (hbY.mono hZs)).trans (hbV.mono (by have := hbY.size; omega))
   exact ⟨k + 1,⟨.cons rfl (.cons rfl (.cons rfl (.cons rfl (.cons rfl .nil)))),rfl⟩,⟨hkl,by rw [htk]; exact setRow_new f0,(setRow_old (by omega)).trans f1,below_setRow hbV2 (by omega) _⟩,by show l.length - (k + 1) < l.length - k; omega⟩
  ·have hc : ¬ (k : Int) < (l.length : Int) := of_decide_eq_false hc
   obtain rfl : k = l.length := by omega
   rw [List.take_length] at f0
   exact ⟨(),⟨.cons rfl (.cons rfl .nil),rfl⟩,f0,f1,hbZ⟩
 rintro _ Z ⟨f0,f1,hbZ⟩
 refine ⟨relC (unionL r l),relC_len _,cells_block f0,hlt f0,?_⟩
 refine store_box (v := .agg (relC (unionL r l)).toArray) (ttOk.get 27 _ rfl) f1 (relC_len _) (relC_len _) (relC_one _) ?_
 exact ⟨relC (unionL r l),relC_len _,cells_block (setRow_new f1),rfl,below_setRow hbZ (by omega) _⟩
end
end Go.Proofs.YtkpcgpmimejimaaGreatDoor
namespace Go.Proofs.YtkpcgpmimejimaaGreatDoor
open Go.Vc Go.RowKit Go.Sei
section
variable {w : World} {b c : Nat} {x : ExD} {q : Option Addr}
theorem ex_cell {X : World} (fx : Cells X ⟨b,0,none⟩ (exC x q c)) : X.cell? ⟨b,0 + 0,none⟩ = some (.slice q x.ev.length c) := cells_at fx (i := 0) rfl
theorem ex_rel {X : World} {o : Nat} {r : RelD} (fx : Cells X ⟨b,0,none⟩ (exC x q c)) (h : ∃ A T,A.length = o ∧ exC x q c = A ++ (relC r ++ T)) : ∀ i,i < 48 → X.cell? ⟨b,o + 1 + i * 1,none⟩ = some (s64 (r.to i)) := by
 intro i hi
 obtain ⟨A,T,hA,hE⟩ := h
 have : (exC x q c)[o + 1 + i * 1]? = some (s64 (r.to i)) := by
  rw [hE,Nat.mul_one,Nat.add_assoc,get_app hA,List.getElem?_append_left (by rw [relC_len]; omega),relC_at r hi]
 have h2 := cells_at fx this
 rw [Nat.zero_add] at h2
 exact h2
theorem exp_po (x : ExD) (q : Option Addr) (c : Nat) : ∃ A T,A.length = 1 ∧ exC x q c = A ++ (relC x.po ++ T) := by
 obtain ⟨A,T,hA,hE⟩ := ex_po x q c []
 exact ⟨A,T,hA,by rw [← hE,List.append_nil]⟩
theorem exp_dt (x : ExD) (q : Option Addr) (c : Nat) : ∃ A T,A.length = 148 ∧ exC x q c = A ++ (relC x.dt ++ T) := by
 obtain ⟨A,T,hA,hE⟩ := ex_dt x q c []
 exact ⟨A,T,hA,by rw [← hE,List.append_nil]⟩
theorem exp_ct (x : ExD) (q : Option Addr) (c : Nat) : ∃ A T,A.length = 197 ∧ exC x q c = A ++ (relC x.ct ++ T) := by
 obtain ⟨A,T,hA,hE⟩ := ex_ct x q c []
 exact ⟨A,T,hA,by rw [← hE,List.append_nil]⟩
theorem exp_rm (x : ExD) (q : Option Addr) (c : Nat) : ∃ A T,A.length = 246 ∧ exC x q c = A ++ (relC x.rm ++ T) := by
 obtain ⟨A,T,hA,hE⟩ := ex_rm x q c []
 exact ⟨A,T,hA,by rw [← hE,List.append_nil]⟩
theorem acc_eq (x : ExD) (i : Nat) : (decide ((evA x i).k = 1) || decide ((evA x i).k = 2)) = accA x i := rfl
theorem ev_ptr {X : World} (hv : SlR evE X q x.ev) {a : Nat} (ha : a < x.ev.length) : ∃ bq oq,q = some ⟨bq,oq,none⟩ ∧ bq < X.heap.size ∧ Cells X ⟨bq,oq + a * 7,none⟩ (evE.enc (evA x a)) := ev_enc hv ha
theorem same_c {a d : Nat} (fx : Cells w ⟨b,0,none⟩ (exC x q c)) (hv : SlR evE w q x.ev) (ha : a < x.ev.length) (hd : d < x.ev.length) :
  Calls Tryz.prog 50 #[At0 b,i64 (a : Nat),i64 (d : Nat)] w fun e w' => e = .returned (.bool (sameM x a d)) ∧ Below w.heap.size w w' := by
 refine calls_of_M (S := sg 44) (sgOk _) (args := [At0 b,i64 (a : Nat),i64 (d : Nat)]) (.c .p .p) Tryz.func50 rfl rfl (Nat.le_of_ble_eq_true rfl) rfl ?_
 refine ⟨Unit,fun _ => ⟨[(0,At0 b),(1,i64 (a : Nat)),(2,i64 (d : Nat))],[]⟩,fun _ X => w = X,⟨(),⟨.cons rfl (.cons rfl (.cons rfl .nil)),rfl⟩,rfl⟩,?_⟩
 rintro _ _ rfl
 obtain ⟨bq,oq,hqe,hb,hat⟩ := ev_ptr hv ha
 obtain ⟨bq2,oq2,hqe2,hb2,hat2⟩ := ev_ptr hv hd
 rw [hqe] at hqe2
 simp only [Option.some.injEq,Addr.mk.injEq,and_true] at hqe2
 rw [← hqe2.1,← hqe2.2] at hat2
 subst hqe
 have dw : Below w.heap.size w w.drew := (Below.refl _ _).drew
 refine DrawE.ord [] [0,1,2,3,4,5,6,7,8,9,10,11,12,13,14,15,16,17,18,19,20,21,22,23,24,25,26,27,28,29,30,31,32,33,34,35,36,37] (by kernel_rfl) ?_
 refine ⟨_,ex_cell (cells_below dw fx),?_⟩
 refine ⟨a,rfl,ha,?_⟩
 refine ⟨evE.enc (evA x a),rfl,cells_below dw hat,Nat.lt_of_lt_of_le hb dw.size,?_⟩
 refine Calls.mono access_c ?_
 rintro e X ⟨rfl,hbX⟩
 refine ⟨hbX,?_⟩
 have bX := dw.trans hbX
 rw [acc_eq]
 refine And.intro (fun h1 => ?_) (fun h1 => ?_)
 ·have h1 : accA x a = true := h1
  refine ⟨_,ex_cell (cells_below bX fx),?_⟩
  refine ⟨d,rfl,hd,?_⟩
  refine ⟨evE.enc (evA x d),rfl,cells_below bX hat2,Nat.lt_of_lt_of_le hb bX.size,?_⟩
  refine Calls.mono access_c ?_
  rintro e Y ⟨rfl,hbY⟩
  refine ⟨hbY,?_⟩
  have bY := bX.trans (hbY.mono bX.size)
  rw [acc_eq]
  refine And.intro (fun h2 => ?_) (fun h2 => ?_)
  ·have h2 : accA x d = true := h2
   refine ⟨_,ex_cell (cells_below bY fx),?_⟩
   refine ⟨a,rfl,ha,?_⟩
   refine ⟨u8 (evA x a).l,by have := cells_at (cells_below bY hat) (i := 2) (v := u8 (evA x a).l) rfl; exact this,?_⟩
   refine ⟨_,ex_cell (cells_below bY fx),?_⟩
   refine ⟨d,rfl,hd,?_⟩
   refine ⟨u8 (evA x d).l,by have := cells_at (cells_below bY hat2) (i := 2) (v := u8 (evA x d).l) rfl; exact this,?_⟩
   refine ⟨rb ?_,bY⟩
   unfold sameM
   rw [h1,h2,Bool.true_and,Bool.true_and]
   exact decide_eq_decide.2 u8_eq
  ·have h2 : accA x d = false := h2
   refine ⟨rb ?_,bY⟩
   unfold sameM
   rw [h1,h2]; rfl
 ·have h1 : accA x a = false := h1
  refine brF ?_
  refine ⟨rb ?_,bX⟩
  unfold sameM
  rw [h1]; rfl
end
structure ScnV (X : World) (b : Nat) (x : ExD) (q : Option Addr) (c : Nat) (f l s : RelD) : Prop where
 h : X.heap[b]? = some (.cells (exC x q c ++ (relC f ++ (relC l ++ relC s))).toArray 104 (0,0))
 v : ExV X x q
 wf : WrdR f.to
 wl : WrdR l.to
 ws : WrdR s.to
section
variable {w : World} {b c : Nat} {x : ExD} {q : Option Addr} {f l s : RelD}
theorem ScnV.below {X Y : World} (h : ScnV X b x q c f l s) (hb : Below X.heap.size X Y) : ScnV Y b x q c f l s := ⟨block_below hb h.h,h.v.below hb,h.wf,h.wl,h.ws⟩
theorem ScnV.cells {X : World} (h : ScnV X b x q c f l s) : Cells X ⟨b,0,none⟩ (exC x q c) := by
 have := cells_sub (n := 0) (m := 333) (cells_block h.h)
 have e : ((exC x q c ++ (relC f ++ (relC l ++ relC s))).toArray.toList.drop 0).take 333 = exC x q c := by
  show (exC x q c ++ _).take 333 = _
  rw [List.take_append_of_le_length (by rw [exC_len]; decide),List.take_of_length_le (by rw [exC_len]; decide)]
 rw [e] at this
 exact this
theorem ScnV.at {X : World} {o : Nat} {r : RelD} (h : ScnV X b x q c f l s) (hr : ∃ A T,A.length = o ∧ exC x q c ++ (relC f ++ (relC l ++ relC s)) = A ++ (relC r ++ T)) : ∀ i,i < 48 → X.cell? ⟨b,o + 1 + i * 1,none⟩ = some (s64 (r.to i)) := by
 intro i hi
 obtain ⟨A,T,hA,hE⟩ := hr
 have : (exC x q c ++ (relC f ++ (relC l ++ relC s)))[o + 1 + i * 1]? = some (s64 (r.to i)) := by
  rw [hE,Nat.mul_one,Nat.add_assoc,get_app hA,List.getElem?_append_left (by rw [relC_len]; omega),relC_at r hi]
 have h2 := cells_at (cells_block h.h) this
 rw [Nat.zero_add] at h2
 exact h2
theorem ScnV.full {X : World} (h : ScnV X b x q c f l s) : ∀ i,i < 48 → X.cell? ⟨b,0 + 333 + 1 + i * 1,none⟩ = some (s64 (f.to i)) := h.at ⟨exC x q c,relC l ++ relC s,exC_len _ _ _,rfl⟩
theorem ScnV.loads {X : World} (h : ScnV X b x q c f l s) : ∀ i,i < 48 → X.cell? ⟨b,0 + 382 + 1 + i * 1,none⟩ = some (s64 (l.to i)) := h.at ⟨exC x q c ++ relC f,relC s,by rw [List.length_append,exC_len,relC_len],by rw [List.append_assoc]⟩
theorem ScnV.stores {X : World} (h : ScnV X b x q c f l s) : ∀ i,i < 48 → X.cell? ⟨b,0 + 431 + 1 + i * 1,none⟩ = some (s64 (s.to i)) := h.at ⟨exC x q c ++ (relC f ++ relC l),[],by rw [List.length_append,List.length_append,exC_len,relC_len,relC_len],by simp only [List.append_assoc,List.append_nil]⟩
theorem read_c {a : Nat} (h : ScnV w b x q c f l s) (ha : a < x.ev.length) : Calls Tryz.prog 85 #[At0 b,i64 (a : Nat)] w fun e w' => e = .returned (.bool (isR x a)) ∧ w = w' := by
 refine calls_of_E (S := sg 15) (sgOk _) (args := [At0 b,i64 (a : Nat)]) Tryz.func85 rfl rfl (Nat.le_of_ble_eq_true rfl) rfl ?_
 obtain ⟨bq,oq,hqe,hb,hat⟩ := ev_ptr h.v.ev ha
 have fx := h.cells
 subst hqe
 refine ⟨_,ex_cell fx,?_⟩
 refine ⟨a,rfl,ha,?_⟩
 refine ⟨u8 (evA x a).k,by have := cells_at hat (i := 1) (v := u8 (evA x a).k) rfl; exact this,?_⟩
 exact ⟨rb (decide_eq_decide.2 (u8_eq (x := (evA x a).k) (y := 1))),rfl⟩
theorem write_c {a : Nat} (h : ScnV w b x q c f l s) (ha : a < x.ev.length) : Calls Tryz.prog 86 #[At0 b,i64 (a : Nat)] w fun e w' => e = .returned (.bool (isW x a)) ∧ w = w' := by
 refine calls_of_E (S := sg 15) (sgOk _) (args := [At0 b,i64 (a : Nat)]) Tryz.func86 rfl rfl (Nat.le_of_ble_eq_true rfl) rfl ?_
 obtain ⟨bq,oq,hqe,hb,hat⟩ := ev_ptr h.v.ev ha
 have fx := h.cells
 subst hqe
 refine ⟨_,ex_cell fx,?_⟩
 refine ⟨a,rfl,ha,?_⟩
 refine ⟨u8 (evA x a).k,by have := cells_at hat (i := 1) (v := u8 (evA x a).k) rfl; exact this,?_⟩
 exact ⟨rb (decide_eq_decide.2 (u8_eq (x := (evA x a).k) (y := 2))),rfl⟩
theorem strong_c {a : Nat} {md : UInt8} (h : ScnV w b x q c f l s) (ha : a < x.ev.length) : Calls Tryz.prog 90 #[At0 b,i64 (a : Nat),u8 md] w fun e w' => e = .returned (.bool (strongM x a md)) ∧ w = w' := by
 refine calls_of_E (S := sg 30) (sgOk _) (args := [At0 b,i64 (a : Nat),u8 md]) Tryz.func90 rfl rfl (Nat.le_of_ble_eq_true rfl) rfl ?_
 obtain ⟨bq,oq,hqe,hb,hat⟩ := ev_ptr h.v.ev ha
 have fx := h.cells
 subst hqe
 refine ⟨_,ex_cell fx,?_⟩
 refine ⟨a,rfl,ha,?_⟩
 refine ⟨u8 (evA x a).m,by have := cells_at hat (i := 4) (v := u8 (evA x a).m) rfl; exact this,?_⟩
 refine And.intro (fun h1 => ?_) (fun h1 => ?_)
 ·have h1 : (evA x a).m = md := u8_eq.1 (of_decide_eq_true h1)
  exact ⟨rb (by unfold strongM; rw [decide_eq_true h1]; rfl),rfl⟩
 ·have h1 : ¬ (evA x a).m = md := fun e => (of_decide_eq_false h1) (by rw [e])
  refine ⟨_,ex_cell fx,?_⟩
  refine ⟨a,rfl,ha,?_⟩
  refine ⟨u8 (evA x a).m,by have := cells_at hat (i := 4) (v := u8 (evA x a).m) rfl; exact this,?_⟩
  exact ⟨rb (by unfold strongM; rw [decide_eq_false h1,Bool.false_or]; exact decide_eq_decide.2 (u8_eq (x := (evA x a).m) (y := 3))),rfl⟩
theorem bound_c {a d : Nat} (h : ScnV w b x q c f l s) (ha : a < x.ev.length) (hd : d < x.ev.length) : Calls Tryz.prog 87 #[At0 b,i64 (a : Nat),i64 (d : Nat)] w fun e w' => e = .returned (.bool (boundM x f a d)) ∧ w = w' := by
 refine calls_of_E (S := sg 23) (sgOk _) (args := [At0 b,i64 (a : Nat),i64 (d : Nat)]) Tryz.func87 rfl rfl (Nat.le_of_ble_eq_true rfl) rfl ?_
 have hn := h.v.n
 refine Calls.mono (hasPair_c h.full h.wf (by omega) (by omega)) ?_
 rintro e _ ⟨rfl,rfl⟩
 refine And.intro (fun h1 => ?_) (fun h1 => ?_)
 ·have h1 : hasM f a d = true := h1
  refine brT ?_
  exact ⟨rb (by unfold boundM; rw [h1]; rfl),rfl⟩
 have h1 : hasM f a d = false := h1
 refine Calls.mono (strong_c (md := 3) h ha) ?_
 rintro e _ ⟨rfl,rfl⟩
 refine And.intro (fun h2 => ?_) (fun h2 => ?_)
 ·have h2 : strongM x a 3 = true := h2
  exact ⟨rb (by unfold boundM; rw [h1,h2]; rfl),rfl⟩
 have h2 : strongM x a 3 = false := h2
 refine Calls.mono (strong_c (md := 3) h hd) ?_
 rintro e _ ⟨rfl,rfl⟩
 exact ⟨rb (by unfold boundM; rw [h1,h2]; rfl),rfl⟩
end
end Go.Proofs.YtkpcgpmimejimaaGreatDoor
namespace Go.Proofs.YtkpcgpmimejimaaGreatDoor
open Go.Vc Go.RowKit Go.Sei
abbrev orG (l : List Nat) : Nat := l.foldl (fun s i => s ||| 2 ^ i) 0
theorem orG_snoc (l : List Nat) (i : Nat) : orG (l ++ [i]) = orG l ||| 2 ^ i := by
 unfold orG
 rw [List.foldl_append]; rfl
theorem orG_lt' : ∀ (l : List Nat) (s : Nat),s < 2 ^ 64 → (∀ i ∈ l,i < 64) → l.foldl (fun s i => s ||| 2 ^ i) s < 2 ^ 64
 | [],s,h,_ => h
 | i :: l,s,h,hl => orG_lt' l (s ||| 2 ^ i) (Nat.or_lt_two_pow h (pow_lt64 (hl i List.mem_cons_self))) fun j hj => hl j (List.mem_cons_of_mem _ hj)
theorem orG_lt {l : List Nat} (hl : ∀ i ∈ l,i < 64) : orG l < 2 ^ 64 := orG_lt' l 0 (by decide) hl
section
variable {w : World}
theorem Of_c {p : Option Addr} {cp : Nat} {l : List Nat} (hl : SlR natE w p l) (h64 : ∀ i ∈ l,i < 64) (hn : l.length ≤ 1000) : Calls Tryz.prog 70 #[.slice p l.length cp] w fun e w' => e = .returned (.tuple #[s64 (orG l),i64 0]) ∧ w = w' := by
 refine calls_of_E (S := sg 25) (sgOk _) (args := [.slice p l.length cp]) Tryz.func70 rfl rfl (Nat.le_of_ble_eq_true rfl) rfl ?_
 refine ⟨Nat,fun k => ⟨[(4,s64 (orG (l.take k))),(7,.slice p l.length cp),(8,i64 l.length),(9,i64 (k : Nat))],[]⟩,fun k X => k ≤ l.length ∧ w = X,fun k => l.length - k,0,⟨.cons rfl (.cons rfl (.cons rfl (.cons rfl .nil))),rfl⟩,⟨Nat.zero_le _,rfl⟩,?_⟩
 rintro k _ ⟨hk,rfl⟩
 dsimp only
 refine And.intro (fun hc => ?_) (fun hc => ?_)
 ·have hc : (k : Int) < (l.length : Int) := of_decide_eq_true hc
  have hkl : k < l.length := by omega
  obtain ⟨b,o,rfl,hb,hat⟩ := hl.at hkl
  obtain ⟨t,ht⟩ : ∃ t,l[k] = t := ⟨_,rfl⟩
  have ht64 := h64 t (by rw [← ht]; exact List.getElem_mem hkl)
  have htk : orG (l.take (k + 1)) = orG (l.take k) ||| 2 ^ t := by rw [List.take_succ_eq_append_getElem hkl,ht,orG_snoc]
  refine ⟨k,rfl,hkl,?_⟩
  refine ⟨i64 t,by have := cells_at (hat k hkl) (i := 0) (v := i64 t) (by rw [ht]; rfl); exact this,?_⟩
  refine And.intro (fun h => ?_) (fun _ => ?_)
  ·have h : (t : Int) < 0 := of_decide_eq_true h
   omega
  refine And.intro (fun h => ?_) (fun _ => ?_)
  ·have h : (64 : Int) ≤ (t : Nat) := of_decide_eq_true h
   omega
  refine ⟨by omega,_,w64_one (e := t) (by omega),?_⟩
  refine ⟨_,w64_or (orG_lt fun i hi => h64 i (List.mem_of_mem_take hi)) (pow_lt64 ht64),?_⟩
  refine ⟨((k + 1 : Nat) : Int),(wrap_i64 (by omega)).trans (by omega),?_⟩
  exact ⟨k + 1,⟨.cons (by show _ = some (s64 (orG (l.take (k + 1)))); rw [htk]; rfl) (.cons rfl (.cons rfl (.cons rfl .nil))),rfl⟩,⟨hkl,rfl⟩,by show l.length - (k + 1) < l.length - k; omega⟩
 ·have hc : ¬ (k : Int) < (l.length : Int) := of_decide_eq_false hc
  obtain rfl : k = l.length := by omega
  rw [List.take_length]
  exact ⟨rfl,rfl⟩
end
section
variable {b c : Nat} {x : ExD} {q : Option Addr} {w : World}
theorem rel_cells2 {X : World} (fx : ExH X b x q c) {i : Nat} (hi : i < 6) {o : Nat} (ho : o = 1 + 49 * i) : Cells X ⟨b,0 + o,none⟩ (relC ((relsL x).getD i x.po)) := by
 rw [ho]
 exact rel_cells fx hi
theorem fr_wrd (hv : ExV w x q) (hT : Tz64M w) : WrdR (backR x.rf).to ∧ WrdR (frM x).to := by
 have h1 : WrdR (backR x.rf).to := by
  unfold backR
  split
  ·rename_i h
   intro i hi
   refine Nat.lt_of_not_le fun hge => ?_
   obtain ⟨j,hj1,hj2⟩ := Nat.exists_ge_and_testBit_of_ge_two_pow hge
   rw [show ((⟨x.rf.n,backF x.rf.to x.rf.n.toNat⟩ : RelD).to i) = backF x.rf.to x.rf.n.toNat i from rfl,backF_bit,Bool.and_eq_true,decide_eq_true_eq] at hj2
   have h48 := (okR_parts h).2.1
   omega
  ·exact fun i _ => (by show 0 < 2 ^ 64; decide)
 exact ⟨h1,then_wrd h1 hv.co⟩
theorem fr_c (fx : ExH w b x q c) (hv : ExV w x q) (hT : Tz64M w) : Calls Tryz.prog 48 #[At0 b] w fun e w' => e = .returned (.agg (relC (frM x)).toArray) ∧ Below w.heap.size w w' := by
 refine calls_of_M (S := sg 19) (sgOk _) (args := [At0 b]) (.c .p (.c .p .p)) Tryz.func48 rfl rfl (Nat.le_of_ble_eq_true rfl) rfl ?_
 obtain ⟨L,hL⟩ : ∃ L,L = w.heap.size := ⟨_,rfl⟩
 obtain ⟨wb,wf⟩ := fr_wrd hv hT
 refine ⟨Unit,fun _ => ⟨[(0,At0 b),(2,At0 L)],[]⟩,fun _ X => RelH X L zeroR ∧ Below w.heap.size w X,⟨(),⟨.cons rfl (.cons (by rw [hL]; rfl) .nil),rfl⟩,by rw [hL]; exact hnew w _,(Below.refl _ w).alloc (Nat.le_refl _) _⟩,?_⟩
 rintro _ X ⟨f0,hbX⟩
 refine ⟨Nat,fun F => ⟨[(2,At0 L),(3,At0 F)],[]⟩,fun F Z => RelH Z F (frM x) ∧ RelH Z L zeroR ∧ Below w.heap.size w Z,?_,?_⟩
 ·have dX : Below X.heap.size X X.drew := (Below.refl _ _).drew
  have fX := hdr (block_below hbX fx)
  have hba : ∀ (A : World) (o : Obj),Below A.heap.size A (A.alloc o) := fun A o => (Below.refl _ _).alloc (Nat.le_refl _) _
  have put : ∀ (W : World) (b3 : Nat),Below X.heap.size X W → RelH W b3 zeroR → X.heap.size ≤ b3 → ∀ {K : World → Prop},(∀ V,(RelH V b3 (frM x) ∧ RelH V L zeroR ∧ Below w.heap.size w V) → K V) →
    SatR ((storeVar 27 ⟨b3,0,none⟩ (.agg (relC (frM x)).toArray)).run Tryz.prog W) fun _ w' => K w' := by
   intro W b3 hW f3 g3 K k
   refine store_box (v := .agg (relC (frM x)).toArray) (ttOk.get 27 _ rfl) f3 (relC_len _) (relC_len _) (relC_one _) ?_
   have hL2 := hlt f0
   exact k _ ⟨setRow_new f3,(setRow_old (by omega)).trans (block_below hW f0),below_setRow (hbX.trans (hW.mono hbX.size)) (by have := hbX.size; omega) _⟩
  refine DrawE.treeQ [14] (.op 0 (.op 1 (.op 2 (.op 3 (.op 5 (.op 6 (.op 7 (.op 8 (.alt (.op 13 (.op 4 (.op 9 (.op 10 (.op 11 (.op 12 (.op 14 (.op 15 (.nil))))))))) (.op 4 (.alt (.op 13 (.op 9 (.op 10 (.op 11 (.op 12 (.op 14 (.op 15 (.nil)))))))) (.op 9 (.op 10 (.op 11 (.op 12 (.op 13 (.op 14 (.op 15 (.nil))))))))))))))))))) (by kernel_rfl) ?_
  refine ⟨relC x.rf,relC_len _,rel_cells2 fX (i := 1) (by decide) rfl,hlt fX,?_⟩
  refine ⟨relC x.co,relC_len _,rel_cells2 fX (i := 2) (by decide) rfl,hlt fX,?_⟩
  refine And.intro ?_ ?_
  ·refine ⟨hba _ _,?_⟩
   have b1 := dX.alloc (Nat.le_refl _) (.cells (relC zeroR).toArray 27)
   refine Calls.mono (Back_c hv.rf (hT.below (hbX.trans (b1.mono hbX.size)))) ?_
   rintro e Y ⟨rfl,hbY,_⟩
   refine ⟨hbY,?_⟩
   have b2 := b1.trans (hbY.mono b1.size)
   refine Calls.mono (Then_c wb hv.co (hT.below (hbX.trans (b2.mono hbX.size)))) ?_
   rintro e Z ⟨rfl,hbZ⟩
   refine ⟨hbZ,?_⟩
   refine put Z X.heap.size (b2.trans (hbZ.mono b2.size)) (block_below hbZ (block_below hbY (hnew X.drew _))) (Nat.le_refl _) ?_
   exact fun V hV => ⟨X.heap.size,⟨.cons rfl (.cons rfl .nil),rfl⟩,hV⟩
  refine Calls.mono (Back_c hv.rf (hT.below (hbX.trans (dX.mono hbX.size)))) ?_
  rintro e Y ⟨rfl,hbY,_⟩
  refine ⟨hbY,?_⟩
  have b1 := dX.trans (hbY.mono dX.size)
  refine And.intro ?_ ?_
  ·refine ⟨hba _ _,?_⟩
   have b2 := b1.alloc b1.size (.cells (relC zeroR).toArray 27)
   refine Calls.mono (Then_c wb hv.co (hT.below (hbX.trans (b2.mono hbX.size)))) ?_
   rintro e Z ⟨rfl,hbZ⟩
   refine ⟨hbZ,?_⟩
   refine put Z Y.heap.size (b2.trans (hbZ.mono b2.size)) (block_below hbZ (hnew Y _)) b1.size ?_
   exact fun V hV => ⟨Y.heap.size,⟨.cons rfl (.cons rfl .nil),rfl⟩,hV⟩
  ·refine Calls.mono (Then_c wb hv.co (hT.below (hbX.trans (b1.mono hbX.size)))) ?_
   rintro e Z ⟨rfl,hbZ⟩
   refine ⟨hbZ,?_⟩
   have b2 := b1.trans (hbZ.mono b1.size)
   refine ⟨hba _ _,?_⟩
   refine put _ Z.heap.size (b2.alloc b2.size _) (hnew Z _) b2.size ?_
   exact fun V hV => ⟨Z.heap.size,⟨.cons rfl (.cons rfl .nil),rfl⟩,hV⟩
 rintro F Z ⟨f1,f0,hbZ⟩
 refine ⟨relC (frM x),relC_len _,cells_block f1,hlt f1,?_⟩
 refine store_box (v := .agg (relC (frM x)).toArray) (ttOk.get 27 _ rfl) f0 (relC_len _) (relC_len _) (relC_one _) ?_
 exact ⟨relC (frM x),relC_len _,cells_block (setRow_new f0),rfl,below_setRow hbZ (by omega) _⟩
end
end Go.Proofs.YtkpcgpmimejimaaGreatDoor
namespace Go.Proofs.YtkpcgpmimejimaaGreatDoor
open Go.Vc Go.RowKit Go.Sei
structure RelOk (n : Nat) (r : RelD) : Prop where
 n : r.n = n
 ok : okR r = true
 w : WrdR r.to
section
variable {n : Nat} {r a b : RelD}
theorem RelOk.le (h : RelOk n r) : n ≤ 48 := by
 have := (okR_parts h.ok).2.1
 have := h.n
 omega
theorem RelOk.bit (h : RelOk n r) {i j : Nat} (hi : i < 48) (hb : hasM r i j = true) : i < n ∧ j < n := by
 have := okR_bit h.ok h.w hi hb
 have := h.n
 omega
theorem okR_of (hn : r.n = n) (h48 : n ≤ 48) (h : ∀ i j,i < 48 → hasM r i j = true → i < n ∧ j < n) : okR r = true := by
 unfold okR
 rw [Bool.and_eq_true,Bool.and_eq_true,decide_eq_true_eq,decide_eq_true_eq,List.all_eq_true]
 refine ⟨by omega,by omega,fun i hi => ?_⟩
 have hi := List.mem_range.1 hi
 unfold rowOk
 rw [Bool.and_eq_true,Bool.or_eq_true,decide_eq_true_eq,decide_eq_true_eq,decide_eq_true_eq]
 refine ⟨?_,?_⟩
 ·rw [lessM_eq,allM_eq]
  apply Nat.eq_of_testBit_eq
  intro j
  rw [Nat.zero_testBit]
  by_cases hj : j < 64
  ·rw [lessN_bit (allN_lt _) hj,allN_bit (by omega) (by omega) hj]
   cases hb : (r.to i).testBit j with
   | false => rfl
   | true =>
    have := (h i j hi hb).2
    rw [decide_eq_true (by omega)]; rfl
  ·have := Nat.testBit_lt_two_pow (Nat.lt_of_lt_of_le (Nat.lt_of_le_of_lt (show lessN (r.to i) (allN r.n) ≤ _ from Nat.and_le_right) (show 18446744073709551615 - allN r.n < 2 ^ 64 by omega)) (Nat.pow_le_pow_right (show 0 < 2 by decide) (show 64 ≤ j by omega)))
   exact this
 ·by_cases hin : i < n
  ·exact .inl (by omega)
  ·refine .inr (Nat.eq_of_testBit_eq fun j => ?_)
   rw [Nat.zero_testBit]
   cases hb : (r.to i).testBit j with
   | false => rfl
   | true => exact absurd (h i j hi hb).1 hin
theorem RelOk.of (hn : r.n = n) (h48 : n ≤ 48) (h : ∀ i j,i < 48 → hasM r i j = true → i < n ∧ j < n) (hw : WrdR r.to) : RelOk n r := ⟨hn,okR_of hn h48 h,hw⟩
theorem row_bit (p : Nat → Bool) : ∀ k j,(rowP k p).testBit j = (decide (j < k) && p j)
 | 0,j => by
  show (0 : Nat).testBit j = _
  simp
 | k + 1,j => by
  rw [rowP_succ]
  split
  ·rename_i h
   rw [Nat.testBit_or,row_bit p k j,pow_bit]
   by_cases e : j = k
   ·subst e
    simp [h]
   ·rw [decide_eq_false e,Bool.or_false]
    congr 1
    exact decide_eq_decide.2 (by omega)
  ·rename_i h
   rw [row_bit p k j]
   by_cases e : j = k
   ·subst e
    have : p j = false := by simpa using h
    rw [this,Bool.and_false,Bool.and_false]
   ·congr 1
    exact decide_eq_decide.2 (by omega)
theorem build_bit {f : Nat → Nat} {i j : Nat} : hasM (buildR n f) i j = (decide (i < n) && (f i).testBit j) := by
 unfold hasM buildR
 dsimp only
 split
 ·rename_i h
  rw [decide_eq_true h]; rfl
 ·rename_i h
  rw [decide_eq_false h,Nat.zero_testBit]; rfl
theorem pick_bit {p : Nat → Nat → Bool} {i j : Nat} : hasM (pickM n p) i j = (decide (i < n) && (decide (j < n) && p i j)) := by
 unfold pickM
 rw [build_bit,row_bit]
theorem RelOk.pick (h : n ≤ 48) (p : Nat → Nat → Bool) : RelOk n (pickM n p) := by
 refine .of rfl h (fun i j _ hb => ?_) (pick_wrd (by omega))
 rw [pick_bit] at hb
 simp only [Bool.and_eq_true,decide_eq_true_eq] at hb
 exact ⟨hb.1,hb.2.1⟩
theorem comb_eq {f : Nat → Nat} (ha : RelOk n a) (hb : RelOk n b) : comb a b f = (buildR n f,0) := by
 unfold comb
 have e : a.n.toNat = n := by have := ha.n; omega
 rw [decide_eq_true (ha.n.trans hb.n.symm),ha.ok,hb.ok,if_pos (show (true && (true && true)) = true from rfl),e]
theorem RelOk.comb {f : Nat → Nat} (ha : RelOk n a) (hb : RelOk n b) (hf : ∀ i j,i < n → (f i).testBit j = true → j < n) : RelOk n (comb a b f).1 := by
 rw [comb_eq ha hb]
 have h48 := ha.le
 have hbit : ∀ i j,hasM (buildR n f) i j = true → i < n ∧ j < n := fun i j h => by
  rw [build_bit,Bool.and_eq_true,decide_eq_true_eq] at h
  exact ⟨h.1,hf i j h.1 h.2⟩
 refine .of rfl h48 (fun i j _ h => hbit i j h) fun i hi => ?_
 apply Nat.lt_of_not_le
 intro hge
 obtain ⟨j,hj1,hj2⟩ := Nat.exists_ge_and_testBit_of_ge_two_pow hge
 have := (hbit i j hj2).2
 omega
theorem union_bit (ha : RelOk n a) (hb : RelOk n b) {i j : Nat} (hi : i < n) : hasM (unionR a b).1 i j = (hasM a i j || hasM b i j) := by
 unfold unionR
 rw [comb_eq ha hb]
 show hasM (buildR n _) i j = _
 rw [build_bit,decide_eq_true hi,Nat.testBit_or]; rfl
theorem RelOk.union (ha : RelOk n a) (hb : RelOk n b) : RelOk n (unionR a b).1 := ha.comb hb fun i j hi h => by
 rw [Nat.testBit_or,Bool.or_eq_true] at h
 have h48 := ha.le
 rcases h with h | h
 ·exact (ha.bit (by omega) h).2
 ·exact (hb.bit (by omega) h).2
theorem minus_bit (ha : RelOk n a) (hb : RelOk n b) {i j : Nat} (hi : i < n) (hj : j < 64) : hasM (minusR a b).1 i j = (hasM a i j && !hasM b i j) := by
 unfold minusR
 rw [comb_eq ha hb]
 show hasM (buildR n _) i j = _
 have h48 := ha.le
 rw [build_bit,decide_eq_true hi,lessM_eq,lessN_bit (hb.w i (by omega)) hj]; rfl
theorem RelOk.minus (ha : RelOk n a) (hb : RelOk n b) : RelOk n (minusR a b).1 := ha.comb hb fun i j hi h => by
 rw [lessM_eq] at h
 unfold lessN at h
 rw [Nat.testBit_and,Bool.and_eq_true] at h
 have h48 := ha.le
 exact (ha.bit (by omega) h.1).2
theorem back_bits (ha : RelOk n a) {i j : Nat} (hi : i < 64) : hasM (backR a) i j = (decide (j < n) && hasM a j i) := by
 unfold hasM
 rw [back_bit ha.ok]
 have e1 : decide ((j : Int) < a.n) = decide (j < n) := decide_eq_decide.2 (by have := ha.n; omega)
 have e2 : decide (i ∈ els (a.to j)) = (a.to j).testBit i := by
  cases h : (a.to j).testBit i with
  | true => exact decide_eq_true (mem_els.2 ⟨hi,h⟩)
  | false => exact decide_eq_false fun hm => by rw [(mem_els.1 hm).2] at h; cases h
 rw [e1,e2]
theorem RelOk.back (ha : RelOk n a) : RelOk n (backR a) := by
 have h48 := ha.le
 have hbit : ∀ i j,i < 48 → hasM (backR a) i j = true → i < n ∧ j < n := fun i j hi h => by
  rw [back_bits ha (by omega),Bool.and_eq_true,decide_eq_true_eq] at h
  exact ⟨(ha.bit (by omega) h.2).2,h.1⟩
 refine .of ?_ h48 hbit fun i hi => ?_
 ·unfold backR
  rw [if_pos ha.ok]
  exact ha.n
 ·apply Nat.lt_of_not_le
  intro hge
  obtain ⟨j,hj1,hj2⟩ := Nat.exists_ge_and_testBit_of_ge_two_pow hge
  have := (hbit i j hi hj2).2
  omega
theorem image_bit {to : Nat → Nat} {j : Nat} : ∀ (l : List Nat) (t : Nat),(l.foldl (fun t a => t ||| to a) t).testBit j = (t.testBit j || l.any fun a => (to a).testBit j)
 | [],t => by simp
 | a :: l,t => by rw [List.foldl_cons,image_bit l,Nat.testBit_or,List.any_cons,Bool.or_assoc]
theorem RelOk.then (ha : RelOk n a) (hb : RelOk n b) : RelOk n (thenR a b).1 := ha.comb hb fun i j hi h => by
 have h48 := ha.le
 unfold imageR at h
 rw [image_bit,Nat.zero_testBit,Bool.false_or,List.any_eq_true] at h
 obtain ⟨k,hk,h⟩ := h
 have := (ha.bit (by omega) (mem_els.1 hk).2).2
 exact (hb.bit (by omega) h).2
theorem minus_ok (ha : RelOk n a) (hb : RelOk n b) : (minusR a b).2 = 0 := by unfold minusR; rw [comb_eq ha hb]
theorem from_zero {to : Nat → Nat} : ∀ (l : List Nat) (s : Nat),l.foldl (fun s a => if to a = 0 then s else s ||| 2 ^ a) s = 0 ↔ s = 0 ∧ ∀ i ∈ l,to i = 0
 | [],s => by simp
 | a :: l,s => by
  rw [List.foldl_cons,from_zero l]
  by_cases h : to a = 0
  ·rw [if_pos h]
   simp [h]
  ·rw [if_neg h]
   have : s ||| 2 ^ a ≠ 0 := fun e => by
    have h2 := congrArg (fun s => s.testBit a) e
    simp only [Nat.testBit_or,pow_bit,Nat.zero_testBit,decide_true,Bool.or_true] at h2
    cases h2
   simp [h,this]
theorem empty_iff (ha : RelOk n a) : emptyR a = true ↔ ∀ i j,i < n → j < n → hasM a i j = false := by
 have h48 := ha.le
 have e : a.n.toNat = n := by have := ha.n; omega
 unfold emptyR fromR
 rw [ha.ok,Bool.true_and,decide_eq_true_eq,if_pos rfl,e,from_zero]
 constructor
 ·rintro ⟨_,h⟩ i j hi _
  unfold hasM
  rw [h i (List.mem_range.2 hi),Nat.zero_testBit]
 ·intro h
  refine ⟨rfl,fun i hi => Nat.eq_of_testBit_eq fun j => ?_⟩
  have hi := List.mem_range.1 hi
  rw [Nat.zero_testBit]
  cases hb : (a.to i).testBit j with
  | false => rfl
  | true =>
   have := h i j hi (ha.bit (by omega) hb).2
   unfold hasM at this
   rw [hb] at this; cases this
theorem minus_empty (ha : RelOk n a) (hb : RelOk n b) (h : ∀ i j,i < n → j < n → hasM a i j = true → hasM b i j = true) : emptyR (minusR a b).1 = true := by
 have h48 := ha.le
 rw [empty_iff (ha.minus hb)]
 intro i j hi hj
 rw [minus_bit ha hb hi (by omega)]
 cases h1 : hasM a i j with
 | false => rfl
 | true => rw [h i j hi hj h1]; rfl
def FreeIn (before : Nat → Nat) (left : Nat) : Prop := ∀ S,S ≠ 0 → S &&& left = S → ∃ i ∈ els S,before i &&& S = 0
theorem top_iff {before : Nat → Nat} : ∀ (m left : Nat) (l : List Nat),left < 2 ^ 64 → (els left).length ≤ m → ((topR before m left l).isSome = true ↔ FreeIn before left)
 | 0,left,l,h64,hm => by
  have h0 : left = 0 := els_nil h64 (by rw [List.isEmpty_iff]; exact List.length_eq_zero_iff.1 (by omega))
  subst h0
  exact ⟨fun _ S hS he => absurd he.symm (by rw [Nat.and_zero]; exact hS),fun _ => rfl⟩
 | m + 1,left,l,h64,hm => by
  by_cases h0 : left = 0
  ·subst h0
   have e : topR before (m + 1) 0 l = some l := if_pos rfl
   rw [e]
   exact ⟨fun _ S hS he => absurd he.symm (by rw [Nat.and_zero]; exact hS),fun _ => rfl⟩
  have e : topR before (m + 1) left l = match freeR before left with | none => none | some a => topR before m (lessM left (2 ^ a)) (l ++ [a]) := if_neg h0
  rw [e]
  cases hf : freeR before left with
  | none =>
   refine ⟨fun h => (by cases h),fun h => ?_⟩
   obtain ⟨i,hi,hb⟩ := h left h0 (Nat.and_self _)
   unfold freeR at hf
   rw [List.find?_eq_none] at hf
   exact absurd (decide_eq_true hb) (hf i hi)
  | some k =>
   have hk := free_mem hf
   have hk2 : before k &&& left = 0 := by
    unfold freeR at hf
    have := List.find?_some hf
    exact of_decide_eq_true this
   have hk64 := els_lt hk
   have hlen := els_less_len h64 hk
   have hsub : ∀ S,S &&& lessN left (2 ^ k) = S → S &&& left = S := fun S h => by
    rw [← h]
    unfold lessN
    apply Nat.eq_of_testBit_eq
    intro j
    simp only [Nat.testBit_and]
    cases S.testBit j <;> cases left.testBit j <;> simp
   dsimp only
   rw [lessM_eq,top_iff m (lessN left (2 ^ k)) (l ++ [k]) (lessN_lt h64) (by omega)]
   constructor
   ·intro h S hS he
    by_cases hm2 : k ∈ els S
    ·refine ⟨k,hm2,?_⟩
     rw [← he,Nat.and_comm S left,← Nat.and_assoc,hk2,Nat.zero_and]
    ·refine h S hS (Nat.eq_of_testBit_eq fun j => ?_)
     rw [Nat.testBit_and]
     cases hb : S.testBit j with
     | false => rfl
     | true =>
      have hl : left.testBit j = true := by
       have h2 := hb
       rw [← he,Nat.testBit_and,Bool.and_eq_true] at h2
       exact h2.2
      have hj : j < 64 := by
       apply Nat.lt_of_not_le
       intro hj
       have := Nat.testBit_lt_two_pow (Nat.lt_of_lt_of_le h64 (Nat.pow_le_pow_right (by decide) hj))
       rw [this] at hl; cases hl
      have hjk : ¬ j = k := fun e => hm2 (mem_els.2 ⟨hk64,by rw [← e]; exact hb⟩)
      rw [lessN_bit (pow_lt64 hk64) hj,hl,pow_bit,decide_eq_false hjk]; rfl
   ·exact fun h S hS he => h S hS (hsub S he)
theorem acy_iff (ha : RelOk n a) : acyR a = true ↔ FreeIn (backR a).to (allN n) := by
 have h48 := ha.le
 unfold acyR topF
 rw [if_pos ha.ok,allM_eq,ha.n]
 refine top_iff 64 _ _ (allN_lt _) ?_
 unfold els
 have := List.length_filter_le (fun i => (allN n).testBit i) (List.range 64)
 rw [List.length_range] at this
 exact this
theorem acy_mono (ha : RelOk n a) (hb : RelOk n b) (hs : ∀ i j,i < n → j < n → hasM b i j = true → hasM a i j = true) (h : acyR a = true) : acyR b = true := by
 have h48 := ha.le
 rw [acy_iff ha] at h
 rw [acy_iff hb]
 intro S hS he
 obtain ⟨i,hi,h0⟩ := h S hS he
 refine ⟨i,hi,Nat.eq_of_testBit_eq fun j => ?_⟩
 have h1 := congrArg (fun s => s.testBit j) h0
 simp only [Nat.testBit_and,Nat.zero_testBit] at h1 ⊢
 cases hj : S.testBit j with
 | false => rw [Bool.and_false]
 | true =>
  rw [hj,Bool.and_true] at h1
  rw [Bool.and_true]
  have hi64 := els_lt hi
  have e1 := back_bits ha (i := i) (j := j) hi64
  have e2 := back_bits hb (i := i) (j := j) hi64
  unfold hasM at e1 e2 hs
  rw [e1] at h1
  rw [e2]
  by_cases hjn : j < n
  ·rw [decide_eq_true hjn,Bool.true_and] at h1 ⊢
   cases hbj : (b.to j).testBit i with
   | false => rfl
   | true =>
    have hin := (hb.bit (i := j) (j := i) (by omega) hbj).2
    rw [hs j i hjn hin hbj] at h1; cases h1
  ·rw [decide_eq_false hjn]; rfl
end
end Go.Proofs.YtkpcgpmimejimaaGreatDoor
namespace Go.Proofs.YtkpcgpmimejimaaGreatDoor
open Go.Vc Go.RowKit Go.Sei
structure WX (x : ExD) : Prop where
 po : WrdR x.po.to
 rf : WrdR x.rf.to
 co : WrdR x.co.to
 dt : WrdR x.dt.to
 ct : WrdR x.ct.to
 rm : WrdR x.rm.to
structure XOk (x : ExD) : Prop where
 n : x.ev.length ≤ 48
 po : RelOk x.ev.length x.po
 rf : RelOk x.ev.length x.rf
 co : RelOk x.ev.length x.co
 dt : RelOk x.ev.length x.dt
 ct : RelOk x.ev.length x.ct
 rm : RelOk x.ev.length x.rm
 ev : evsRight x.ev (initsN x.ev) = true
 poE : relEq x.po (poR x.ev) = true
 rfR : rfRight x = true
 coR : coRight x (initsN x.ev) = true
 dep : depRight x = true
section
variable {x : ExD}
theorem xok_of (hw : WX x) (h : rightX x = true) : XOk x := by
 unfold rightX relsRight at h
 simp only [List.all_cons,List.all_nil,Bool.and_true,Bool.and_eq_true,decide_eq_true_eq] at h
 obtain ⟨h1,_,_,h4,⟨h5,h6,h7,h8,h9,h10⟩,h11,h12,h13,h14⟩ := h
 exact ⟨h1,⟨h5.1,h5.2,hw.po⟩,⟨h6.1,h6.2,hw.rf⟩,⟨h7.1,h7.2,hw.co⟩,⟨h8.1,h8.2,hw.dt⟩,⟨h9.1,h9.2,hw.ct⟩,⟨h10.1,h10.2,hw.rm⟩,h4,h11,h12,h13,h14⟩
theorem dep_next {W : Nat} {e : Ev} {es : List Ev} {i h : Nat} (hd : depGo x W i (e :: es) h = true) : (¬ (x.dt.to i ||| x.ct.to i ||| x.rm.to i = 0) → e.k = 1) ∧ ∃ h',depGo x W (i + 1) es h' = true := by
 unfold depGo at hd
 dsimp only at hd
 split at hd
 ·rename_i h0
  exact ⟨fun hn => (hn h0).elim,h,hd⟩
 ·split at hd
  ·rename_i hc
   refine ⟨fun _ => hc.1,?_⟩
   split at hd
   ·exact ⟨h,hd⟩
   ·split at hd
    ·exact ⟨_,hd⟩
    ·cases hd
  ·cases hd
theorem dep_read {W : Nat} : ∀ (es : List Ev) (i h : Nat),depGo x W i es h = true → ∀ k,k < es.length → ¬ (x.dt.to (i + k) ||| x.ct.to (i + k) ||| x.rm.to (i + k) = 0) → (es.getD k ev0).k = 1
 | [],_,_,_,k,hk,_ => by simp at hk
 | e :: es,i,h,hd,0,_,hne => (dep_next hd).1 hne
 | e :: es,i,h,hd,k + 1,hk,hne => by
  obtain ⟨h',hd'⟩ := (dep_next hd).2
  have := dep_read es (i + 1) h' hd' k (by simpa using hk) (by rw [show i + 1 + k = i + (k + 1) by omega]; exact hne)
  simpa using this
theorem dep_isR (h : XOk x) {a b : Nat} (ha : a < x.ev.length) (hb : hasM x.dt a b = true ∨ hasM x.ct a b = true ∨ hasM x.rm a b = true) : isR x a = true := by
 refine decide_eq_true (dep_read x.ev 0 0 h.dep a ha fun h0 => ?_)
 rw [Nat.zero_add] at h0
 have h1 := congrArg (fun s => s.testBit b) h0
 simp only [Nat.testBit_or,Nat.zero_testBit,Bool.or_eq_false_iff] at h1
 unfold hasM at hb
 rw [h1.1.1,h1.1.2,h1.2] at hb
 rcases hb with h | h | h <;> cases h
def pairsW : List (Nat × Nat) := [(2,3),(3,4),(4,6),(2,5),(6,1),(5,1)]
theorem keep_sub (h : XOk x) {f l s : RelD} {a b : Nat} (ha : a < x.ev.length) {p : Nat × Nat} (hp : p ∈ pairsW) (hk : keepM p.2 x f l s a b = true) : keepM p.1 x f l s a b = true := by
 have hR := dep_isR h (b := b) ha
 simp only [pairsW,List.mem_cons,List.not_mem_nil,or_false] at hp
 rcases hp with rfl | rfl | rfl | rfl | rfl | rfl
 ·rfl
 ·simp only [keepM,Bool.or_eq_true,Bool.and_eq_true] at hk ⊢
  rcases hk with h | h | h
  ·exact .inl h
  ·exact .inr (.inr h)
  ·exact .inr (.inl h.1)
 ·simp only [keepM,boundM,Bool.or_eq_true,Bool.and_eq_true] at hk ⊢
  rcases hk with h | h | h | h | h | h
  ·exact .inl (hR (.inl h))
  ·exact .inl (hR (.inr (.inl h.1)))
  ·exact .inl (hR (.inr (.inr h)))
  ·exact .inr (.inl (.inl h))
  ·exact .inl h.2.1
  ·exact .inr (.inr ⟨h.2.2,.inr h.1⟩)
 ·rfl
 ·exact (Bool.false_ne_true hk).elim
 ·exact (Bool.false_ne_true hk).elim
theorem fr_rel (h : XOk x) : RelOk x.ev.length (frM x) := h.rf.back.then h.co
theorem kept_sub (h : XOk x) {p : Nat × Nat} (hp : p ∈ pairsW) {i j : Nat} (hk : hasM (keptM p.2 x) i j = true) : hasM (keptM p.1 x) i j = true := by
 unfold keptM at hk ⊢
 rw [pick_bit] at hk ⊢
 simp only [Bool.and_eq_true,decide_eq_true_eq] at hk ⊢
 exact ⟨hk.1,hk.2.1,hk.2.2.1,hk.2.2.2.1,hk.2.2.2.2.1,keep_sub h hk.1 hp hk.2.2.2.2.2⟩
theorem unionL_rel {n : Nat} : ∀ {l : List RelD} {r : RelD},RelOk n r → (∀ o ∈ l,RelOk n o) → RelOk n (unionL r l)
 | [],_,h,_ => h
 | o :: l,r,h,hl => unionL_rel (l := l) (r := (unionR r o).1) (h.union (hl o List.mem_cons_self)) fun y hy => hl y (List.mem_cons_of_mem _ hy)
theorem unionL_bit {n i j : Nat} (hi : i < n) : ∀ {l : List RelD} {r : RelD},RelOk n r → (∀ o ∈ l,RelOk n o) → hasM (unionL r l) i j = (hasM r i j || l.any fun o => hasM o i j)
 | [],_,_,_ => by rw [List.any_nil,Bool.or_false]; rfl
 | o :: l,r,h,hl => by
  have ho := hl o List.mem_cons_self
  have := unionL_bit (j := j) hi (l := l) (r := (unionR r o).1) (h.union ho) fun y hy => hl y (List.mem_cons_of_mem _ hy)
  show hasM (unionL (unionR r o).1 l) i j = _
  rw [this,union_bit h ho hi,List.any_cons,Bool.or_assoc]
theorem ext_rel (h : XOk x) {r : RelD} (hr : RelOk x.ev.length r) : RelOk x.ev.length (extM x r) := by
 have e : r.n.toNat = x.ev.length := by have := hr.n; omega
 unfold extM
 rw [e]
 exact .pick h.n _
theorem ext_sub {r : RelD} {i j : Nat} (hk : hasM (extM x r) i j = true) : hasM r i j = true := by
 unfold extM at hk
 rw [pick_bit] at hk
 simp only [Bool.and_eq_true] at hk
 exact hk.2.2.1
def ordM (m : Nat) (x : ExD) : RelD := unionL (keptM m x) [if m = 2 then x.rf else extM x x.rf,x.co,frM x]
theorem nest_zero {A B C : Bool} {m : Nat} : (if A = true then (if B = true then (if m = 1 then 0 else if C = true then 0 else 3) else 2) else 1) = 0 ↔ A = true ∧ B = true ∧ (m = 1 ∨ C = true) := by
 by_cases h : m = 1 <;> cases A <;> cases B <;> cases C <;> simp [h]
theorem broken_iff {m : Nat} : brokenM m x = 0 ↔ acyR (unionL (localM x) [x.rf,x.co,frM x]) = true ∧ emptyR (bothR x.rm (thenR (frM x) x.co).1).1 = true ∧ (m = 1 ∨ acyR (ordM m x) = true) := by
 unfold brokenM ordM
 exact nest_zero
theorem rfm_rel (h : XOk x) {m : Nat} : RelOk x.ev.length (if m = 2 then x.rf else extM x x.rf) := by
 split
 ·exact h.rf
 ·exact ext_rel h h.rf
theorem ord_rels (h : XOk x) {m : Nat} : ∀ o ∈ [if m = 2 then x.rf else extM x x.rf,x.co,frM x],RelOk x.ev.length o := by
 simp only [List.mem_cons,List.not_mem_nil,or_false,forall_eq_or_imp,forall_eq]
 exact ⟨rfm_rel h,h.co,fr_rel h⟩
theorem kept_rel (h : XOk x) {m : Nat} : RelOk x.ev.length (keptM m x) := .pick h.n _
theorem ord_sub (h : XOk x) {p : Nat × Nat} (hp : p ∈ pairsW) (h1 : p.2 ≠ 1) {i j : Nat} (hi : i < x.ev.length) (hk : hasM (ordM p.2 x) i j = true) : hasM (ordM p.1 x) i j = true := by
 unfold ordM at hk ⊢
 rw [unionL_bit hi (kept_rel h) (ord_rels h)] at hk ⊢
 simp only [List.any_cons,List.any_nil,Bool.or_false,Bool.or_eq_true] at hk ⊢
 rcases hk with hk | hk | hk
 ·exact .inl (kept_sub h hp hk)
 ·refine .inr (.inl ?_)
  have h2 : p.2 ≠ 2 := by
   simp only [pairsW,List.mem_cons,List.not_mem_nil,or_false] at hp
   rcases hp with rfl | rfl | rfl | rfl | rfl | rfl <;> decide
  rw [if_neg h2] at hk
  split
  ·exact ext_sub hk
  ·exact hk
 ·exact .inr (.inr hk)
theorem weaker_broken (h : XOk x) {p : Nat × Nat} (hp : p ∈ pairsW) (hb : brokenM p.1 x = 0) : brokenM p.2 x = 0 := by
 rw [broken_iff] at hb ⊢
 refine ⟨hb.1,hb.2.1,?_⟩
 by_cases h1 : p.2 = 1
 ·exact .inl h1
 ·have h2 : p.1 ≠ 1 := by
   simp only [pairsW,List.mem_cons,List.not_mem_nil,or_false] at hp
   rcases hp with rfl | rfl | rfl | rfl | rfl | rfl <;> decide
  refine .inr (acy_mono (unionL_rel (kept_rel h) (ord_rels h)) (unionL_rel (kept_rel h) (ord_rels h)) (fun i j hi _ hk => ord_sub h hp h1 hi hk) (hb.2.2.resolve_left h2))
def keptX (m : Nat) (x : ExD) : RelD := if knownM m = true ∧ rightX x = true then keptM m x else zeroR
theorem pairs_known {p : Nat × Nat} (hp : p ∈ pairsW) : knownM p.1 = true ∧ knownM p.2 = true := by
 simp only [pairsW,List.mem_cons,List.not_mem_nil,or_false] at hp
 rcases hp with rfl | rfl | rfl | rfl | rfl | rfl <;> exact ⟨rfl,rfl⟩
theorem weaker_holds (hw : WX x) {p : Nat × Nat} (hp : p ∈ pairsW) (h : holdsM p.1 x = true) : holdsM p.2 x = true := by
 unfold holdsM at h ⊢
 rw [(pairs_known hp).1,Bool.true_and,Bool.and_eq_true,decide_eq_true_eq] at h
 rw [(pairs_known hp).2,Bool.true_and,Bool.and_eq_true,decide_eq_true_eq]
 exact ⟨h.1,weaker_broken (xok_of hw h.1) hp h.2⟩
theorem weaker_kept (hw : WX x) {p : Nat × Nat} (hp : p ∈ pairsW) : (minusR (keptX p.2 x) (keptX p.1 x)).2 = 0 ∧ emptyR (minusR (keptX p.2 x) (keptX p.1 x)).1 = true := by
 unfold keptX
 by_cases hr : rightX x = true
 ·rw [if_pos ⟨(pairs_known hp).2,hr⟩,if_pos ⟨(pairs_known hp).1,hr⟩]
  have h := xok_of hw hr
  exact ⟨minus_ok (kept_rel h) (kept_rel h),minus_empty (kept_rel h) (kept_rel h) fun i j _ _ hk => kept_sub h hp hk⟩
 ·rw [if_neg fun h => hr h.2,if_neg fun h => hr h.2]
  exact ⟨by kernel_rfl,by kernel_rfl⟩
end
end Go.Proofs.YtkpcgpmimejimaaGreatDoor
namespace Go.Proofs.YtkpcgpmimejimaaGreatDoor
open Go.Vc Go.RowKit Go.Sei
end Go.Proofs.YtkpcgpmimejimaaGreatDoor
namespace Go.Proofs.YtkpcgpmimejimaaGreatDoor
open Go.Vc Go.RowKit Go.Sei
theorem relH_cell {X : World} {L : Nat} {r : RelD} (h : RelH X L r) : ∀ i,i < 48 → X.cell? ⟨L,0 + 1 + i * 1,none⟩ = some (s64 (r.to i)) := by
 have hR : RelAt X L 0 27 [] [] r := ⟨rfl,by simpa using h⟩
 exact fun i hi => hR.cell hi
section
variable {b c : Nat} {x : ExD} {q : Option Addr} {w : World}
theorem ext1_c {r : RelD} {a d R B : Nat} (fR : RelH w R r) (hr : WrdR r.to) (fB : w.heap[B]? = some (.cells #[At0 b] 75 (0,0))) (fx : ExH w b x q c) (hv : ExV w x q) (ha : a < x.ev.length) (hd : d < x.ev.length) :
  Calls Tryz.prog 69 #[i64 (a : Nat),i64 (d : Nat),At0 R,At0 B] w fun e w' => e = .returned (.bool (hasM r a d && !decide ((evA x a).th = (evA x d).th))) ∧ Below w.heap.size w w' := by
 refine calls_of_E (S := sg 29) (sgOk _) (args := [i64 (a : Nat),i64 (d : Nat),At0 R,At0 B]) Tryz.func69 rfl rfl (Nat.le_of_ble_eq_true rfl) rfl ?_
 have hn := hv.n
 obtain ⟨bq,oq,hqe,hb,hat⟩ := ev_ptr hv.ev ha
 obtain ⟨bq2,oq2,hqe2,hb2,hat2⟩ := ev_ptr hv.ev hd
 rw [hqe] at hqe2
 simp only [Option.some.injEq,Addr.mk.injEq,and_true] at hqe2
 rw [← hqe2.1,← hqe2.2] at hat2
 subst hqe
 have dw : Below w.heap.size w w.drew := (Below.refl _ _).drew
 refine DrawE.ord [] [0,1,2,3,4,5,6,7,8,9,10,11,12,13,14,15,16,17,18,19,20,21,22] (by kernel_rfl) ?_
 refine Calls.mono (hasPair_c (relH_cell (hdr fR)) hr (by omega) (by omega)) ?_
 rintro e _ ⟨rfl,rfl⟩
 refine ⟨Below.refl _ _,?_⟩
 refine And.intro (fun h1 => ?_) (fun h1 => ?_)
 ·have h1 : hasM r a d = true := h1
  refine ⟨At0 b,cells_at (cells_block (hdr fB)) (i := 0) rfl,?_⟩
  refine ⟨_,ex_cell (cells_block (hdr fx)),?_⟩
  refine ⟨a,rfl,ha,?_⟩
  refine ⟨i64 (evA x a).th,by have := cells_at (cells_below dw hat) (i := 0) (v := i64 (evA x a).th) rfl; exact this,?_⟩
  refine ⟨At0 b,cells_at (cells_block (hdr fB)) (i := 0) rfl,?_⟩
  refine ⟨_,ex_cell (cells_block (hdr fx)),?_⟩
  refine ⟨d,rfl,hd,?_⟩
  refine ⟨i64 (evA x d).th,by have := cells_at (cells_below dw hat2) (i := 0) (v := i64 (evA x d).th) rfl; exact this,?_⟩
  exact ⟨rb (by rw [h1,Bool.true_and]),dw⟩
 ·have h1 : hasM r a d = false := h1
  exact ⟨rb (by rw [h1,Bool.false_and]),dw⟩
theorem broken1_c {a d B : Nat} (fB : w.heap[B]? = some (.cells #[At0 b] 75 (0,0))) (fx : ExH w b x q c) (hv : ExV w x q) (ha : a < x.ev.length) (hd : d < x.ev.length) :
  Calls Tryz.prog 54 #[i64 (a : Nat),i64 (d : Nat),At0 B] w fun e w' => e = .returned (.bool (hasM x.po a d && sameM x a d)) ∧ Below w.heap.size w w' := by
 refine calls_of_E (S := sg 18) (sgOk _) (args := [i64 (a : Nat),i64 (d : Nat),At0 B]) Tryz.func54 rfl rfl (Nat.le_of_ble_eq_true rfl) rfl ?_
 have hn := hv.n
 refine ⟨At0 b,cells_at (cells_block fB) (i := 0) rfl,?_⟩
 refine Calls.mono (hasPair_c (ex_rel (cells_block fx) (exp_po x q c)) hv.po (by omega) (by omega)) ?_
 rintro e _ ⟨rfl,rfl⟩
 refine And.intro (fun h1 => ?_) (fun h1 => ?_)
 ·have h1 : hasM x.po a d = true := h1
  refine ⟨At0 b,cells_at (cells_block fB) (i := 0) rfl,?_⟩
  refine Calls.mono (same_c (cells_block fx) hv.ev ha hd) ?_
  rintro e X ⟨rfl,hb⟩
  exact ⟨rb (by rw [h1,Bool.true_and]),hb⟩
 ·have h1 : hasM x.po a d = false := h1
  exact ⟨rb (by rw [h1,Bool.false_and]),Below.refl _ _⟩
theorem ext_c {r : RelD} (fx : ExH w b x q c) (hv : ExV w x q) (hr : WrdR r.to) (hn : r.n = x.ev.length) :
  Calls Tryz.prog 41 #[At0 b,.agg (relC r).toArray] w fun e w' => e = .returned (.agg (relC (extM x r)).toArray) ∧ Below w.heap.size w w' := by
 refine calls_of_M (S := sg 9) (sgOk _) (args := [At0 b,.agg (relC r).toArray]) (.c .p (.c .p .p)) Tryz.func41 rfl rfl (Nat.le_of_ble_eq_true rfl) rfl ?_
 obtain ⟨L,hL⟩ : ∃ L,L = w.heap.size := ⟨_,rfl⟩
 have h19 := hv.n
 refine ⟨Unit,fun _ => ⟨[(2,At0 L),(3,At0 (L + 1)),(4,At0 (L + 2))],[]⟩,fun _ X => X.heap[L]? = some (.cells #[At0 b] 75 (0,0)) ∧ RelH X (L + 1) r ∧ RelH X (L + 2) zeroR ∧ Below w.heap.size w X,?_,?_⟩
 ·have s1 := World.size_alloc w (.cells #[At0 b] 75)
  have s2 := World.size_alloc (w.alloc (.cells #[At0 b] 75)) (.cells (relC r).toArray 27)
  have b1 : Below w.heap.size w (w.alloc (.cells #[At0 b] 75)) := (Below.refl _ w).alloc (Nat.le_refl _) _
  have b2 := b1.alloc b1.size (.cells (relC r).toArray 27)
  have h1 := hnew w (.cells #[At0 b] 75)
  have h2 := hnew (w.alloc (.cells #[At0 b] 75)) (.cells (relC r).toArray 27)
  have h3 := hnew ((w.alloc (.cells #[At0 b] 75)).alloc (.cells (relC r).toArray 27)) (.cells (relC zeroR).toArray 27)
  rw [s1] at h2 s2
  rw [s2] at h3
  refine ⟨(),⟨.cons (by rw [hL]; rfl) (.cons (by rw [hL,← s1]; rfl) (.cons (by rw [hL,← s2]; rfl) .nil)),rfl⟩,by rw [hL]; exact hold _ (hold _ h1),by rw [hL]; exact hold _ h2,by rw [hL]; exact h3,b2.alloc b2.size _⟩
 rintro _ X ⟨fB,fR,f0,hbX⟩
 have fX := block_below hbX fx
 have hvX := hv.below hbX
 refine ⟨Unit,fun _ => ⟨[(4,At0 (L + 2))],[]⟩,fun _ Y => RelH Y (L + 2) (extM x r) ∧ Below w.heap.size w Y,?_,?_⟩
 ·refine ⟨i64 r.n,by have := cells_at (cells_block fR) (i := 0) (v := i64 r.n) rfl; exact this,?_⟩
  have en : extM x r = pickM x.ev.length fun a d => hasM r a d && !decide ((evA x a).th = (evA x d).th) := by
   unfold extM
   rw [hn]; rfl
  rw [hn]
  refine Calls.mono (pick_c (n := x.ev.length) (caps := #[At0 (L + 1),At0 L]) (g := 69) (p := fun a d => hasM r a d && !decide ((evA x a).th = (evA x d).th)) (by omega) (by kernel_rfl) fun a d Z ha hd hb => ext1_c (block_below hb fR) hr (block_below hb fB) (block_below hb fX) (hvX.below hb) ha hd) ?_
  rintro e Y ⟨rfl,hbY⟩
  rw [← en]
  have f0 := block_below hbY f0
  refine store_box (v := .agg (relC (extM x r)).toArray) (ttOk.get 27 _ rfl) f0 (relC_len _) (relC_len _) (relC_one _) ?_
  exact ⟨(),⟨.cons rfl .nil,rfl⟩,setRow_new f0,below_setRow (hbX.trans (hbY.mono hbX.size)) (by omega) _⟩
 rintro _ Y ⟨f0,hbY⟩
 exact ⟨relC (extM x r),relC_len _,cells_block f0,rfl,hbY⟩
end
end Go.Proofs.YtkpcgpmimejimaaGreatDoor
namespace Go.Proofs.YtkpcgpmimejimaaGreatDoor
open Go.Vc Go.RowKit Go.Sei
section
variable {b c : Nat} {x : ExD} {q : Option Addr} {w : World}
theorem fenced_c {md : UInt8} (fx : ExH w b x q c) (hv : ExV w x q) (hT : Tz64M w) : Calls Tryz.prog 47 #[At0 b,u8 md] w fun e w' => e = .returned (.agg (relC (fencedM x md)).toArray) ∧ Below w.heap.size w w' := by
 refine calls_of_M (S := sg 70) (sgOk _) (args := [At0 b,u8 md]) (.c .p (.c .p (.c .p (.c .p (.c .p (.c .p (.c .p .p))))))) Tryz.func47 rfl rfl (Nat.le_of_ble_eq_true rfl) rfl ?_
 obtain ⟨L,hL⟩ : ∃ L,L = w.heap.size := ⟨_,rfl⟩
 have hn := hv.n
 obtain ⟨n,hnn⟩ : ∃ n,n = x.ev.length := ⟨_,rfl⟩
 refine ⟨Unit,fun _ => ⟨[(0,At0 b),(1,u8 md),(4,At0 L)],[]⟩,fun _ X => RelH X L zeroR ∧ Below w.heap.size w X,⟨(),⟨.cons rfl (.cons rfl (.cons (by rw [hL]; rfl) .nil)),rfl⟩,by rw [hL]; exact hnew w _,(Below.refl _ w).alloc (Nat.le_refl _) _⟩,?_⟩
 rintro _ X ⟨f0,hbX⟩
 refine ⟨Unit,fun _ => ⟨[(0,At0 b),(1,u8 md),(4,At0 L),(5,i64 n)],[]⟩,fun _ Y => X = Y,?_,?_⟩
 ·refine ⟨_,cells_at (cells_block (block_below hbX fx)) (i := 0) rfl,?_⟩
  exact ⟨(),⟨.cons rfl (.cons rfl (.cons rfl (.cons (by rw [hnn]; rfl) .nil))),rfl⟩,rfl⟩
 rintro _ _ rfl
 refine ⟨Unit,fun _ => ⟨[(0,At0 b),(1,u8 md),(4,At0 L),(5,i64 n),(6,.slice none 0 0)],[]⟩,fun _ Y => X = Y,⟨(),⟨.cons rfl (.cons rfl (.cons rfl (.cons rfl (.cons rfl .nil)))),rfl⟩,rfl⟩,?_⟩
 rintro _ _ rfl
 obtain ⟨pr,hpr⟩ : ∃ pr : Nat → Bool,pr = fun i => decide ((evA x i).k = 3) && decide ((evA x i).m = md) := ⟨_,rfl⟩
 obtain ⟨B,hB⟩ : ∃ B,B = X.heap.size := ⟨_,rfl⟩
 refine ⟨Option Addr × Nat,fun s => ⟨[(0,At0 b),(4,At0 L),(5,i64 n),(6,.slice s.1 ((List.range n).filter pr).length s.2)],[]⟩,fun s V => OwnS natE 3 B V s.1 s.2 ((List.range n).filter pr) ∧ Below B X V,?_,?_⟩
 ·refine ⟨_,cells_at (cells_block (block_below hbX fx)) (i := 0) rfl,?_⟩
  refine ⟨Nat × Option Addr × Nat,fun s => ⟨[(0,At0 b),(1,u8 md),(4,At0 L),(5,i64 n),(6,.slice s.2.1 ((List.range s.1).filter pr).length s.2.2),(23,.slice q x.ev.length c),(24,i64 x.ev.length),(25,i64 (s.1 : Nat))],[]⟩,fun s V => s.1 ≤ x.ev.length ∧ OwnS natE 3 B V s.2.1 s.2.2 ((List.range s.1).filter pr) ∧ Below B X V,fun s => x.ev.length - s.1,(0,none,0),
   ⟨.cons rfl (.cons rfl (.cons rfl (.cons rfl (.cons rfl (.cons rfl (.cons rfl (.cons rfl .nil))))))),rfl⟩,⟨Nat.zero_le _,OwnS.nil,by rw [hB]; exact Below.refl _ _⟩,?_⟩
  rintro ⟨k,ps,cs⟩ V ⟨hk,oV,hbV⟩
  dsimp only at hk oV ⊢
  have hVs : B ≤ V.heap.size := by have := hbV.size; omega
  refine And.intro (fun hc => ?_) (fun hc => ?_)
  ·have hc : (k : Int) < (x.ev.length : Int) := of_decide_eq_true hc
   have hkl : k < x.ev.length := by omega
   have hbwV := hbX.trans (hbV.mono (by rw [hB]; exact hbX.size))
   obtain ⟨bq,oq,hqe,hb,hat⟩ := ev_ptr (hv.ev.below hbwV) hkl
   have hfl : (List.range (k + 1)).filter pr = (List.range k).filter pr ++ if pr k = true then [k] else [] := by
    rw [List.range_succ,List.filter_append,List.filter_cons,List.filter_nil]
   have hprk : pr k = (decide ((evA x k).k = 3) && decide ((evA x k).m = md)) := by rw [hpr]
   have hll2 : ((List.range k).filter pr).length ≤ k := by
    have := List.length_filter_le pr (List.range k)
    rw [List.length_range] at this
    exact this
   obtain ⟨e,he⟩ : ∃ e,e = evA x k := ⟨_,rfl⟩
   rw [← he] at hat hprk
   have eq0 : some (Value.slice q x.ev.length c) = some (Value.slice (some ⟨bq,oq,none⟩) x.ev.length c) := by rw [hqe]
   subst hqe
   refine ⟨k,rfl,hkl,?_⟩
   refine ⟨evE.enc e,rfl,hat,hb,?_⟩
   refine store_new (X := V) (v := .agg (evE.enc e).toArray) (ttOk.get 52 _ rfl) rfl rfl (List.all_eq_true.2 fun u hu => evE.one e u hu) fun U hbU fU sU => ?_
   have fU : U.heap[V.heap.size]? = some (.cells (evE.enc e).toArray 52 (0,0)) := fU
   have oU := oV.below hbU
   have hbU2 := hbV.trans (hbU.mono hVs)
   have hUs : B ≤ U.heap.size := by have := hbU.size; omega
   have skip : pr k = false → (k + 1 ≤ x.ev.length ∧ OwnS natE 3 B U ps cs ((List.range (k + 1)).filter pr) ∧ Below B X U) := fun h => ⟨hkl,by rw [hfl,h]; simpa using oU,hbU2⟩
   have skipE : pr k = false → ((List.range (k + 1)).filter pr).length = ((List.range k).filter pr).length := fun h => by rw [hfl,h]; simp
   refine ⟨u8 e.k,cells_at (cells_block fU) (i := 1) rfl,?_⟩
   refine And.intro (fun h1 => ?_) (fun h1 => ?_)
   ·have h1 : e.k = 3 := u8_eq.1 (of_decide_eq_true h1)
    refine ⟨u8 e.m,cells_at (cells_block fU) (i := 4) rfl,?_⟩
    refine And.intro (fun h2 => ?_) (fun h2 => ?_)
    ·have h2 : e.m = md := u8_eq.1 (of_decide_eq_true h2)
     have hp1 : pr k = true := by rw [hprk,decide_eq_true h1,decide_eq_true h2]; rfl
     rw [if_pos hp1] at hfl
     refine ⟨⟨by decide,by decide,rfl⟩,natE.enc k,rfl,?_⟩
     have hb2 : Below U.heap.size U (U.alloc (.cells (natE.enc k).toArray 3)) := (Below.refl _ _).alloc (Nat.le_refl _) _
     have sb2 := hb2.size
     unfold opsE stepE
     show SatR _ _
     refine appI (oU.below hb2) (one_new natE k) (by omega) (by omega) fun p' c' S oS gS hat2 => ?_
     rw [own_map] at gS
     rw [← hfl] at oS ⊢
     refine ⟨((k + 1 : Nat) : Int),(wrap_i64 (by omega)).trans (by omega),?_⟩
     exact ⟨(k + 1,p',c'),⟨.cons rfl (.cons rfl (.cons rfl (.cons rfl (.cons rfl (.cons rfl (.cons rfl (.cons rfl .nil))))))),rfl⟩,⟨hkl,oS,hbU2.trans ((hb2.mono hUs).trans (past_below (oU.below hb2) (by omega) (Nat.le_refl _) gS))⟩,by show x.ev.length - (k + 1) < x.ev.length - k; omega⟩
    ·have h2 : ¬ e.m = md := fun e2 => (of_decide_eq_false h2) (by rw [e2])
     have hp0 : pr k = false := by rw [hprk,decide_eq_false h2,Bool.and_false]
     refine ⟨((k + 1 : Nat) : Int),(wrap_i64 (by omega)).trans (by omega),?_⟩
     exact ⟨(k + 1,ps,cs),⟨.cons rfl (.cons rfl (.cons rfl (.cons rfl (.cons (by show _ = some (Value.slice ps ((List.range (k + 1)).filter pr).length cs); rw [skipE hp0]; rfl) (.cons rfl (.cons rfl (.cons rfl .nil))))))),rfl⟩,skip hp0,by show x.ev.length - (k + 1) < x.ev.length - k; omega⟩
   ·have h1 : ¬ e.k = 3 := fun e2 => (of_decide_eq_false h1) (by rw [e2]; rfl)
    have hp0 : pr k = false := by rw [hprk,decide_eq_false h1]; rfl
    refine brF ?_
    refine ⟨((k + 1 : Nat) : Int),(wrap_i64 (by omega)).trans (by omega),?_⟩
    exact ⟨(k + 1,ps,cs),⟨.cons rfl (.cons rfl (.cons rfl (.cons rfl (.cons (by show _ = some (Value.slice ps ((List.range (k + 1)).filter pr).length cs); rw [skipE hp0]; rfl) (.cons rfl (.cons rfl (.cons rfl .nil))))))),rfl⟩,skip hp0,by show x.ev.length - (k + 1) < x.ev.length - k; omega⟩
  ·have hc : ¬ (k : Int) < (x.ev.length : Int) := of_decide_eq_false hc
   obtain rfl : k = x.ev.length := by omega
   rw [← hnn] at oV ⊢
   exact ⟨(ps,cs),⟨.cons rfl (.cons rfl (.cons rfl (.cons rfl .nil))),rfl⟩,oV,hbV⟩
 rintro ⟨ps,cs⟩ V ⟨oV,hbV⟩
 dsimp only at oV ⊢
 have hVs : B ≤ V.heap.size := by have := hbV.size; omega
 have hbwV := hbX.trans (hbV.mono (by rw [hB]; exact hbX.size))
 have hmask : orG ((List.range n).filter pr) = fenMask x md := by rw [hpr,hnn]; rfl
 have hlt64 : ∀ i ∈ (List.range n).filter pr,i < 64 := fun i hi => by
  have := List.mem_range.1 (List.mem_filter.1 hi).1
  omega
 have hlen : ((List.range n).filter pr).length ≤ n := by
  have := List.length_filter_le pr (List.range n)
  rw [List.length_range] at this
  exact this
 refine ⟨Unit,fun _ => ⟨[(0,At0 b),(4,At0 L),(5,i64 n),(9,s64 (fenMask x md))],[]⟩,fun _ Y => V = Y,?_,?_⟩
 ·refine Calls.mono (Of_c oV.row hlt64 (by omega)) ?_
  rintro e Y ⟨rfl,rfl⟩
  rw [hmask]
  exact ⟨(),⟨.cons rfl (.cons rfl (.cons rfl (.cons rfl .nil))),rfl⟩,rfl⟩
 rintro _ _ rfl
 have hm64 : fenMask x md < 2 ^ 64 := by rw [← hmask]; exact orG_lt hlt64
 replace f0 := block_below (by rw [← hB]; exact hbV) f0
 have fV := block_below hbwV fx
 have hvV := hv.below hbwV
 have hTV := hT.below hbwV
 clear oV hbX hbV hlen hlt64 hmask hpr hB hVs
 clear B ps cs pr X
 have idw : WrdR (idR n (fenMask x md)).to := fun i hi => by
  unfold idR
  exact build_wrd (fun i _ _ => Nat.lt_of_le_of_lt Nat.and_le_left hm64) i hi
 have hba : ∀ (A : World) (o : Obj),Below A.heap.size A (A.alloc o) := fun A o => (Below.refl _ _).alloc (Nat.le_refl _) _
 refine ⟨Nat,fun F => ⟨[(0,At0 b),(4,At0 L),(11,At0 F)],[]⟩,fun F Z => RelH Z F (thenR x.po (idR n (fenMask x md))).1 ∧ RelH Z L zeroR ∧ Below w.heap.size w Z,?_,?_⟩
 ·have dV : Below V.heap.size V V.drew := (Below.refl _ _).drew
  have put : ∀ (W : World) (b3 : Nat),Below V.heap.size V W → RelH W b3 zeroR → V.heap.size ≤ b3 → ∀ {K : World → Prop},(∀ Y,(RelH Y b3 (thenR x.po (idR n (fenMask x md))).1 ∧ RelH Y L zeroR ∧ Below w.heap.size w Y) → K Y) →
    SatR ((storeVar 27 ⟨b3,0,none⟩ (.agg (relC (thenR x.po (idR n (fenMask x md))).1).toArray)).run Tryz.prog W) fun _ w' => K w' := by
   intro W b3 hW f3 g3 K k
   refine store_box (v := .agg (relC (thenR x.po (idR n (fenMask x md))).1).toArray) (ttOk.get 27 _ rfl) f3 (relC_len _) (relC_len _) (relC_one _) ?_
   have hL2 := hlt f0
   exact k _ ⟨setRow_new f3,(setRow_old (by omega)).trans (block_below hW f0),below_setRow (hbwV.trans (hW.mono hbwV.size)) (by have := hbwV.size; omega) _⟩
  refine DrawE.treeQ [12] (.op 0 (.op 1 (.op 2 (.op 3 (.op 4 (.op 5 (.alt (.op 11 (.op 6 (.op 7 (.op 8 (.op 9 (.op 10 (.op 12 (.op 13 (.nil))))))))) (.op 6 (.alt (.op 11 (.op 7 (.op 8 (.op 9 (.op 10 (.op 12 (.op 13 (.nil)))))))) (.op 7 (.op 8 (.op 9 (.op 10 (.op 11 (.op 12 (.op 13 (.nil))))))))))))))))) (by kernel_rfl) ?_
  refine ⟨relC x.po,relC_len _,rel_cells2 (hdr fV) (i := 0) (by decide) rfl,hlt (hdr fV),?_⟩
  refine And.intro ?_ ?_
  ·refine ⟨hba _ _,?_⟩
   have b1 := dV.alloc (Nat.le_refl _) (.cells (relC zeroR).toArray 27)
   refine Calls.mono (Id_c (n := n) (by omega) hm64) ?_
   rintro e Y ⟨rfl,hbY⟩
   refine ⟨hbY,?_⟩
   have b2 := b1.trans (hbY.mono b1.size)
   refine Calls.mono (Then_c hvV.po idw (hTV.below b2)) ?_
   rintro e Z ⟨rfl,hbZ⟩
   refine ⟨hbZ,?_⟩
   refine put Z V.heap.size (b2.trans (hbZ.mono b2.size)) (block_below hbZ (block_below hbY (hnew V.drew _))) (Nat.le_refl _) ?_
   exact fun Y hY => ⟨V.heap.size,⟨.cons rfl (.cons rfl (.cons rfl .nil)),rfl⟩,hY⟩
  refine Calls.mono (Id_c (n := n) (by omega) hm64) ?_
  rintro e Y ⟨rfl,hbY⟩
  refine ⟨hbY,?_⟩
  have b1 := dV.trans (hbY.mono dV.size)
  refine And.intro ?_ ?_
  ·refine ⟨hba _ _,?_⟩
   have b2 := b1.alloc b1.size (.cells (relC zeroR).toArray 27)
   refine Calls.mono (Then_c hvV.po idw (hTV.below b2)) ?_
   rintro e Z ⟨rfl,hbZ⟩
   refine ⟨hbZ,?_⟩
   refine put Z Y.heap.size (b2.trans (hbZ.mono b2.size)) (block_below hbZ (hnew Y _)) b1.size ?_
   exact fun V2 hV => ⟨Y.heap.size,⟨.cons rfl (.cons rfl (.cons rfl .nil)),rfl⟩,hV⟩
  ·refine Calls.mono (Then_c hvV.po idw (hTV.below b1)) ?_
   rintro e Z ⟨rfl,hbZ⟩
   refine ⟨hbZ,?_⟩
   have b2 := b1.trans (hbZ.mono b1.size)
   refine ⟨hba _ _,?_⟩
   refine put _ Z.heap.size (b2.alloc b2.size _) (hnew Z _) b2.size ?_
   exact fun V2 hV => ⟨Z.heap.size,⟨.cons rfl (.cons rfl (.cons rfl .nil)),rfl⟩,hV⟩
 clear f0 fV hvV hTV hbwV
 clear V
 rintro F V ⟨f1,f0,hbV⟩
 have fV := block_below hbV fx
 have hTV := hT.below hbV
 have hFw := then_wrd hv.po idw
 have efen : (thenR (thenR x.po (idR n (fenMask x md))).1 x.po).1 = fencedM x md := by rw [hnn]; rfl
 refine ⟨Nat,fun G => ⟨[(4,At0 L),(13,At0 G)],[]⟩,fun G Z => RelH Z G (fencedM x md) ∧ RelH Z L zeroR ∧ Below w.heap.size w Z,?_,?_⟩
 ·have dV : Below V.heap.size V V.drew := (Below.refl _ _).drew
  have put : ∀ (W : World) (b3 : Nat),Below V.heap.size V W → RelH W b3 zeroR → V.heap.size ≤ b3 → ∀ {K : World → Prop},(∀ Y,(RelH Y b3 (fencedM x md) ∧ RelH Y L zeroR ∧ Below w.heap.size w Y) → K Y) →
    SatR ((storeVar 27 ⟨b3,0,none⟩ (.agg (relC (fencedM x md)).toArray)).run Tryz.prog W) fun _ w' => K w' := by
   intro W b3 hW f3 g3 K k
   refine store_box (v := .agg (relC (fencedM x md)).toArray) (ttOk.get 27 _ rfl) f3 (relC_len _) (relC_len _) (relC_one _) ?_
   have hL2 := hlt f0
   exact k _ ⟨setRow_new f3,(setRow_old (by omega)).trans (block_below hW f0),below_setRow (hbV.trans (hW.mono hbV.size)) (by have := hbV.size; omega) _⟩
  refine DrawE.treeQ [10] (.op 0 (.op 1 (.op 2 (.op 3 (.op 4 (.alt (.op 9 (.op 5 (.op 6 (.op 7 (.op 8 (.op 10 (.op 11 .nil))))))) (.op 5 (.op 6 (.op 7 (.op 8 (.op 9 (.op 10 (.op 11 .nil))))))))))))) (by kernel_rfl) ?_
  refine ⟨relC _,relC_len _,cells_block (hdr f1),hlt (hdr f1),?_⟩
  refine ⟨relC x.po,relC_len _,rel_cells2 (hdr fV) (i := 0) (by decide) rfl,hlt (hdr fV),?_⟩
  refine And.intro ?_ ?_
  ·refine ⟨hba _ _,?_⟩
   have b1 := dV.alloc (Nat.le_refl _) (.cells (relC zeroR).toArray 27)
   refine Calls.mono (Then_c hFw hv.po (hTV.below b1)) ?_
   rintro e Y ⟨rfl,hbY⟩
   refine ⟨hbY,?_⟩
   rw [efen]
   refine put Y V.heap.size (b1.trans (hbY.mono b1.size)) (block_below hbY (hnew V.drew _)) (Nat.le_refl _) ?_
   exact fun Y hY => ⟨V.heap.size,⟨.cons rfl (.cons rfl .nil),rfl⟩,hY⟩
  ·refine Calls.mono (Then_c hFw hv.po (hTV.below dV)) ?_
   rintro e Y ⟨rfl,hbY⟩
   refine ⟨hbY,?_⟩
   have b1 := dV.trans (hbY.mono dV.size)
   refine ⟨hba _ _,?_⟩
   rw [efen]
   refine put _ Y.heap.size (b1.alloc b1.size _) (hnew Y _) b1.size ?_
   exact fun V2 hV => ⟨Y.heap.size,⟨.cons rfl (.cons rfl .nil),rfl⟩,hV⟩
 rintro G Z ⟨f1,f0,hbZ⟩
 refine ⟨relC (fencedM x md),relC_len _,cells_block f1,hlt f1,?_⟩
 refine store_box (v := .agg (relC (fencedM x md)).toArray) (ttOk.get 27 _ rfl) f0 (relC_len _) (relC_len _) (relC_one _) ?_
 exact ⟨relC (fencedM x md),relC_len _,cells_block (setRow_new f0),rfl,below_setRow hbZ (by omega) _⟩
end
end Go.Proofs.YtkpcgpmimejimaaGreatDoor
namespace Go.Proofs.YtkpcgpmimejimaaGreatDoor
open Go.Vc Go.RowKit Go.Sei
section
variable {w : World} {b c : Nat} {x : ExD} {q : Option Addr} {f l s : RelD}
theorem rule1_c {a d : Nat} : Calls Tryz.prog 82 #[At0 b,i64 (a : Nat),i64 (d : Nat)] w fun e w' => e = .returned (.bool (keepM 1 x f l s a d)) ∧ Below w.heap.size w w' := by
 refine calls_of_E (S := sg 7) (sgOk _) (args := [At0 b,i64 (a : Nat),i64 (d : Nat)]) Tryz.func82 rfl rfl (Nat.le_of_ble_eq_true rfl) rfl ?_
 exact ⟨rfl,Below.refl _ _⟩
theorem rule2_c {a d : Nat} : Calls Tryz.prog 83 #[At0 b,i64 (a : Nat),i64 (d : Nat)] w fun e w' => e = .returned (.bool (keepM 2 x f l s a d)) ∧ Below w.heap.size w w' := by
 refine calls_of_E (S := sg 7) (sgOk _) (args := [At0 b,i64 (a : Nat),i64 (d : Nat)]) Tryz.func83 rfl rfl (Nat.le_of_ble_eq_true rfl) rfl ?_
 exact ⟨rfl,Below.refl _ _⟩
theorem rule3_c {a d : Nat} (h : ScnV w b x q c f l s) (ha : a < x.ev.length) (hd : d < x.ev.length) : Calls Tryz.prog 84 #[At0 b,i64 (a : Nat),i64 (d : Nat)] w fun e w' => e = .returned (.bool (keepM 3 x f l s a d)) ∧ Below w.heap.size w w' := by
 refine calls_of_E (S := sg 21) (sgOk _) (args := [At0 b,i64 (a : Nat),i64 (d : Nat)]) Tryz.func84 rfl rfl (Nat.le_of_ble_eq_true rfl) rfl ?_
 have hn := h.v.n
 have hA : a < 48 := by omega
 have hD : d < 48 := by omega
 have hbw := Below.refl w.heap.size w
 refine Calls.mono (read_c h ha) ?_
 rintro e _ ⟨rfl,rfl⟩
 refine And.intro (fun h1 => ?_) (fun h1 => ?_)
 ·have h1 : isR x a = true := h1
  refine brT ?_
  exact ⟨rb (by show _ = (isR x a || (isW x d || boundM x f a d)); rw [h1]; rfl),hbw⟩
 ·have h1 : isR x a = false := h1
  refine Calls.mono (write_c h hd) ?_
  rintro e _ ⟨rfl,rfl⟩
  refine And.intro (fun h2 => ?_) (fun h2 => ?_)
  ·have h2 : isW x d = true := h2
   exact ⟨rb (by show _ = (isR x a || (isW x d || boundM x f a d)); rw [h1,h2]; rfl),hbw⟩
  ·have h2 : isW x d = false := h2
   refine Calls.mono (bound_c h ha hd) ?_
   rintro e _ ⟨rfl,rfl⟩
   exact ⟨rb (by show _ = (isR x a || (isW x d || boundM x f a d)); rw [h1,h2]; rfl),hbw⟩
theorem rule4_c {a d : Nat} (h : ScnV w b x q c f l s) (ha : a < x.ev.length) (hd : d < x.ev.length) : Calls Tryz.prog 88 #[At0 b,i64 (a : Nat),i64 (d : Nat)] w fun e w' => e = .returned (.bool (keepM 4 x f l s a d)) ∧ Below w.heap.size w w' := by
 refine calls_of_E (S := sg 37) (sgOk _) (args := [At0 b,i64 (a : Nat),i64 (d : Nat)]) Tryz.func88 rfl rfl (Nat.le_of_ble_eq_true rfl) rfl ?_
 have hn := h.v.n
 have hA : a < 48 := by omega
 have hD : d < 48 := by omega
 have hbw := Below.refl w.heap.size w
 refine Calls.mono (read_c h ha) ?_
 rintro e _ ⟨rfl,rfl⟩
 refine And.intro (fun h1 => ?_) (fun h1 => ?_)
 ·have h1 : isR x a = true := h1
  refine brT ?_
  exact ⟨rb (by show _ = (isR x a || (boundM x f a d || (isW x d && (sameM x a d || hasM s a d)))); rw [h1]; rfl),hbw⟩
 ·have h1 : isR x a = false := h1
  refine Calls.mono (bound_c h ha hd) ?_
  rintro e _ ⟨rfl,rfl⟩
  refine And.intro (fun h2 => ?_) (fun h2 => ?_)
  ·have h2 : boundM x f a d = true := h2
   exact ⟨rb (by show _ = (isR x a || (boundM x f a d || (isW x d && (sameM x a d || hasM s a d)))); rw [h1,h2]; rfl),hbw⟩
  ·have h2 : boundM x f a d = false := h2
   refine Calls.mono (write_c h hd) ?_
   rintro e _ ⟨rfl,rfl⟩
   refine And.intro (fun h3 => ?_) (fun h3 => ?_)
   ·have h3 : isW x d = true := h3
    refine Calls.mono (same_c h.cells h.v.ev ha hd) ?_
    rintro e Z4 ⟨rfl,hbZ4⟩
    have h := h.below hbZ4
    have hbw := hbw.trans (hbZ4.mono hbw.size)
    refine And.intro (fun h4 => ?_) (fun h4 => ?_)
    ·have h4 : sameM x a d = true := h4
     exact ⟨rb (by show _ = (isR x a || (boundM x f a d || (isW x d && (sameM x a d || hasM s a d)))); rw [h1,h2,h3,h4]; rfl),hbw⟩
    ·have h4 : sameM x a d = false := h4
     refine Calls.mono (hasPair_c h.stores h.ws hA hD) ?_
     rintro e _ ⟨rfl,rfl⟩
     exact ⟨rb (by show _ = (isR x a || (boundM x f a d || (isW x d && (sameM x a d || hasM s a d)))); rw [h1,h2,h3,h4]; rfl),hbw⟩
   ·have h3 : isW x d = false := h3
    exact ⟨rb (by show _ = (isR x a || (boundM x f a d || (isW x d && (sameM x a d || hasM s a d)))); rw [h1,h2,h3]; rfl),hbw⟩
theorem rule5_c {a d : Nat} (h : ScnV w b x q c f l s) (ha : a < x.ev.length) (hd : d < x.ev.length) : Calls Tryz.prog 89 #[At0 b,i64 (a : Nat),i64 (d : Nat)] w fun e w' => e = .returned (.bool (keepM 5 x f l s a d)) ∧ Below w.heap.size w w' := by
 refine calls_of_E (S := sg 49) (sgOk _) (args := [At0 b,i64 (a : Nat),i64 (d : Nat)]) Tryz.func89 rfl rfl (Nat.le_of_ble_eq_true rfl) rfl ?_
 have hn := h.v.n
 have hA : a < 48 := by omega
 have hD : d < 48 := by omega
 have hbw := Below.refl w.heap.size w
 refine Calls.mono (read_c h ha) ?_
 rintro e _ ⟨rfl,rfl⟩
 refine And.intro (fun h1 => ?_) (fun h1 => ?_)
 ·have h1 : isR x a = true := h1
  refine Calls.mono (strong_c (md := 1) h ha) ?_
  rintro e _ ⟨rfl,rfl⟩
  refine And.intro (fun h2 => ?_) (fun h2 => ?_)
  ·have h2 : strongM x a 1 = true := h2
   refine brT ?_
   refine brT ?_
   exact ⟨rb (by show _ = ((isR x a && (strongM x a 1 || hasM l a d)) || ((isW x d && (strongM x d 2 || hasM s a d)) || hasM f a d)); rw [h1,h2]; rfl),hbw⟩
  ·have h2 : strongM x a 1 = false := h2
   refine Calls.mono (hasPair_c h.loads h.wl hA hD) ?_
   rintro e _ ⟨rfl,rfl⟩
   refine And.intro (fun h3 => ?_) (fun h3 => ?_)
   ·have h3 : hasM l a d = true := h3
    refine brT ?_
    exact ⟨rb (by show _ = ((isR x a && (strongM x a 1 || hasM l a d)) || ((isW x d && (strongM x d 2 || hasM s a d)) || hasM f a d)); rw [h1,h2,h3]; rfl),hbw⟩
   ·have h3 : hasM l a d = false := h3
    refine Calls.mono (write_c h hd) ?_
    rintro e _ ⟨rfl,rfl⟩
    refine And.intro (fun h4 => ?_) (fun h4 => ?_)
    ·have h4 : isW x d = true := h4
     refine Calls.mono (strong_c (md := 2) h hd) ?_
     rintro e _ ⟨rfl,rfl⟩
     refine And.intro (fun h5 => ?_) (fun h5 => ?_)
     ·have h5 : strongM x d 2 = true := h5
      refine brT ?_
      exact ⟨rb (by show _ = ((isR x a && (strongM x a 1 || hasM l a d)) || ((isW x d && (strongM x d 2 || hasM s a d)) || hasM f a d)); rw [h1,h2,h3,h4,h5]; rfl),hbw⟩
     ·have h5 : strongM x d 2 = false := h5
      refine Calls.mono (hasPair_c h.stores h.ws hA hD) ?_
      rintro e _ ⟨rfl,rfl⟩
      refine And.intro (fun h6 => ?_) (fun h6 => ?_)
      ·have h6 : hasM s a d = true := h6
       exact ⟨rb (by show _ = ((isR x a && (strongM x a 1 || hasM l a d)) || ((isW x d && (strongM x d 2 || hasM s a d)) || hasM f a d)); rw [h1,h2,h3,h4,h5,h6]; rfl),hbw⟩
      ·have h6 : hasM s a d = false := h6
       refine Calls.mono (hasPair_c h.full h.wf hA hD) ?_
       rintro e _ ⟨rfl,rfl⟩
       exact ⟨rb (by show _ = ((isR x a && (strongM x a 1 || hasM l a d)) || ((isW x d && (strongM x d 2 || hasM s a d)) || hasM f a d)); rw [h1,h2,h3,h4,h5,h6]; rfl),hbw⟩
    ·have h4 : isW x d = false := h4
     refine brF ?_
     refine Calls.mono (hasPair_c h.full h.wf hA hD) ?_
     rintro e _ ⟨rfl,rfl⟩
     exact ⟨rb (by show _ = ((isR x a && (strongM x a 1 || hasM l a d)) || ((isW x d && (strongM x d 2 || hasM s a d)) || hasM f a d)); rw [h1,h2,h3,h4]; rfl),hbw⟩
 ·have h1 : isR x a = false := h1
  refine brF ?_
  refine Calls.mono (write_c h hd) ?_
  rintro e _ ⟨rfl,rfl⟩
  refine And.intro (fun h9 => ?_) (fun h9 => ?_)
  ·have h9 : isW x d = true := h9
   refine Calls.mono (strong_c (md := 2) h hd) ?_
   rintro e _ ⟨rfl,rfl⟩
   refine And.intro (fun h10 => ?_) (fun h10 => ?_)
   ·have h10 : strongM x d 2 = true := h10
    refine brT ?_
    exact ⟨rb (by show _ = ((isR x a && (strongM x a 1 || hasM l a d)) || ((isW x d && (strongM x d 2 || hasM s a d)) || hasM f a d)); rw [h1,h9,h10]; rfl),hbw⟩
   ·have h10 : strongM x d 2 = false := h10
    refine Calls.mono (hasPair_c h.stores h.ws hA hD) ?_
    rintro e _ ⟨rfl,rfl⟩
    refine And.intro (fun h11 => ?_) (fun h11 => ?_)
    ·have h11 : hasM s a d = true := h11
     exact ⟨rb (by show _ = ((isR x a && (strongM x a 1 || hasM l a d)) || ((isW x d && (strongM x d 2 || hasM s a d)) || hasM f a d)); rw [h1,h9,h10,h11]; rfl),hbw⟩
    ·have h11 : hasM s a d = false := h11
     refine Calls.mono (hasPair_c h.full h.wf hA hD) ?_
     rintro e _ ⟨rfl,rfl⟩
     exact ⟨rb (by show _ = ((isR x a && (strongM x a 1 || hasM l a d)) || ((isW x d && (strongM x d 2 || hasM s a d)) || hasM f a d)); rw [h1,h9,h10,h11]; rfl),hbw⟩
  ·have h9 : isW x d = false := h9
   refine brF ?_
   refine Calls.mono (hasPair_c h.full h.wf hA hD) ?_
   rintro e _ ⟨rfl,rfl⟩
   exact ⟨rb (by show _ = ((isR x a && (strongM x a 1 || hasM l a d)) || ((isW x d && (strongM x d 2 || hasM s a d)) || hasM f a d)); rw [h1,h9]; rfl),hbw⟩
theorem rule6_c {a d : Nat} (h : ScnV w b x q c f l s) (ha : a < x.ev.length) (hd : d < x.ev.length) : Calls Tryz.prog 91 #[At0 b,i64 (a : Nat),i64 (d : Nat)] w fun e w' => e = .returned (.bool (keepM 6 x f l s a d)) ∧ Below w.heap.size w w' := by
 refine calls_of_E (S := sg 81) (sgOk _) (args := [At0 b,i64 (a : Nat),i64 (d : Nat)]) Tryz.func91 rfl rfl (Nat.le_of_ble_eq_true rfl) rfl ?_
 have hn := h.v.n
 have hA : a < 48 := by omega
 have hD : d < 48 := by omega
 have hbw := Below.refl w.heap.size w
 refine Calls.mono (hasPair_c (ex_rel h.cells (exp_dt x q c)) h.v.dt hA hD) ?_
 rintro e _ ⟨rfl,rfl⟩
 refine And.intro (fun h1 => ?_) (fun h1 => ?_)
 ·have h1 : hasM x.dt a d = true := h1
  refine brT ?_
  refine brT ?_
  refine brT ?_
  refine brT ?_
  exact ⟨rb (by show _ = (hasM x.dt a d || ((hasM x.ct a d && isW x d) || (hasM x.rm a d || (hasM f a d || ((hasM l a d && (isR x a && isR x d)) || (hasM s a d && (isW x a && isW x d))))))); rw [h1]; rfl),hbw⟩
 ·have h1 : hasM x.dt a d = false := h1
  refine Calls.mono (hasPair_c (ex_rel h.cells (exp_ct x q c)) h.v.ct hA hD) ?_
  rintro e _ ⟨rfl,rfl⟩
  refine And.intro (fun h2 => ?_) (fun h2 => ?_)
  ·have h2 : hasM x.ct a d = true := h2
   refine Calls.mono (write_c h hd) ?_
   rintro e _ ⟨rfl,rfl⟩
   refine And.intro (fun h3 => ?_) (fun h3 => ?_)
   ·have h3 : isW x d = true := h3
    refine brT ?_
    refine brT ?_
    refine brT ?_
    exact ⟨rb (by show _ = (hasM x.dt a d || ((hasM x.ct a d && isW x d) || (hasM x.rm a d || (hasM f a d || ((hasM l a d && (isR x a && isR x d)) || (hasM s a d && (isW x a && isW x d))))))); rw [h1,h2,h3]; rfl),hbw⟩
   ·have h3 : isW x d = false := h3
    refine Calls.mono (hasPair_c (ex_rel h.cells (exp_rm x q c)) h.v.rm hA hD) ?_
    rintro e _ ⟨rfl,rfl⟩
    refine And.intro (fun h4 => ?_) (fun h4 => ?_)
    ·have h4 : hasM x.rm a d = true := h4
     refine brT ?_
     refine brT ?_
     exact ⟨rb (by show _ = (hasM x.dt a d || ((hasM x.ct a d && isW x d) || (hasM x.rm a d || (hasM f a d || ((hasM l a d && (isR x a && isR x d)) || (hasM s a d && (isW x a && isW x d))))))); rw [h1,h2,h3,h4]; rfl),hbw⟩
    ·have h4 : hasM x.rm a d = false := h4
     refine Calls.mono (hasPair_c h.full h.wf hA hD) ?_
     rintro e _ ⟨rfl,rfl⟩
     refine And.intro (fun h5 => ?_) (fun h5 => ?_)
     ·have h5 : hasM f a d = true := h5
      refine brT ?_
      exact ⟨rb (by show _ = (hasM x.dt a d || ((hasM x.ct a d && isW x d) || (hasM x.rm a d || (hasM f a d || ((hasM l a d && (isR x a && isR x d)) || (hasM s a d && (isW x a && isW x d))))))); rw [h1,h2,h3,h4,h5]; rfl),hbw⟩
     ·have h5 : hasM f a d = false := h5
      refine Calls.mono (hasPair_c h.loads h.wl hA hD) ?_
      rintro e _ ⟨rfl,rfl⟩
      refine And.intro (fun h6 => ?_) (fun h6 => ?_)
      ·have h6 : hasM l a d = true := h6
       refine Calls.mono (read_c h ha) ?_
       rintro e _ ⟨rfl,rfl⟩
       refine And.intro (fun h7 => ?_) (fun h7 => ?_)
       ·have h7 : isR x a = true := h7
        refine Calls.mono (read_c h hd) ?_
        rintro e _ ⟨rfl,rfl⟩
        refine And.intro (fun h8 => ?_) (fun h8 => ?_)
        ·have h8 : isR x d = true := h8
         exact ⟨rb (by show _ = (hasM x.dt a d || ((hasM x.ct a d && isW x d) || (hasM x.rm a d || (hasM f a d || ((hasM l a d && (isR x a && isR x d)) || (hasM s a d && (isW x a && isW x d))))))); rw [h1,h2,h3,h4,h5,h6,h7,h8]; rfl),hbw⟩
        ·have h8 : isR x d = false := h8
         refine Calls.mono (hasPair_c h.stores h.ws hA hD) ?_
         rintro e _ ⟨rfl,rfl⟩
         refine And.intro (fun h9 => ?_) (fun h9 => ?_)
         ·have h9 : hasM s a d = true := h9
          refine Calls.mono (write_c h ha) ?_
          rintro e _ ⟨rfl,rfl⟩
          refine And.intro (fun h10 => ?_) (fun h10 => ?_)
          ·have h10 : isW x a = true := h10
           refine Calls.mono (write_c h hd) ?_
           rintro e _ ⟨rfl,rfl⟩
           exact ⟨rb (by show _ = (hasM x.dt a d || ((hasM x.ct a d && isW x d) || (hasM x.rm a d || (hasM f a d || ((hasM l a d && (isR x a && isR x d)) || (hasM s a d && (isW x a && isW x d))))))); rw [h1,h2,h3,h4,h5,h6,h7,h8,h9,h10]; rfl),hbw⟩
          ·have h10 : isW x a = false := h10
           exact ⟨rb (by show _ = (hasM x.dt a d || ((hasM x.ct a d && isW x d) || (hasM x.rm a d || (hasM f a d || ((hasM l a d && (isR x a && isR x d)) || (hasM s a d && (isW x a && isW x d))))))); rw [h1,h2,h3,h4,h5,h6,h7,h8,h9,h10]; rfl),hbw⟩
         ·have h9 : hasM s a d = false := h9
          refine brF ?_
          exact ⟨rb (by show _ = (hasM x.dt a d || ((hasM x.ct a d && isW x d) || (hasM x.rm a d || (hasM f a d || ((hasM l a d && (isR x a && isR x d)) || (hasM s a d && (isW x a && isW x d))))))); rw [h1,h2,h3,h4,h5,h6,h7,h8,h9]; rfl),hbw⟩
       ·have h7 : isR x a = false := h7
        refine brF ?_
        refine Calls.mono (hasPair_c h.stores h.ws hA hD) ?_
        rintro e _ ⟨rfl,rfl⟩
        refine And.intro (fun h12 => ?_) (fun h12 => ?_)
        ·have h12 : hasM s a d = true := h12
         refine Calls.mono (write_c h ha) ?_
         rintro e _ ⟨rfl,rfl⟩
         refine And.intro (fun h13 => ?_) (fun h13 => ?_)
         ·have h13 : isW x a = true := h13
          refine Calls.mono (write_c h hd) ?_
          rintro e _ ⟨rfl,rfl⟩
          exact ⟨rb (by show _ = (hasM x.dt a d || ((hasM x.ct a d && isW x d) || (hasM x.rm a d || (hasM f a d || ((hasM l a d && (isR x a && isR x d)) || (hasM s a d && (isW x a && isW x d))))))); rw [h1,h2,h3,h4,h5,h6,h7,h12,h13]; rfl),hbw⟩
         ·have h13 : isW x a = false := h13
          exact ⟨rb (by show _ = (hasM x.dt a d || ((hasM x.ct a d && isW x d) || (hasM x.rm a d || (hasM f a d || ((hasM l a d && (isR x a && isR x d)) || (hasM s a d && (isW x a && isW x d))))))); rw [h1,h2,h3,h4,h5,h6,h7,h12,h13]; rfl),hbw⟩
        ·have h12 : hasM s a d = false := h12
         refine brF ?_
         exact ⟨rb (by show _ = (hasM x.dt a d || ((hasM x.ct a d && isW x d) || (hasM x.rm a d || (hasM f a d || ((hasM l a d && (isR x a && isR x d)) || (hasM s a d && (isW x a && isW x d))))))); rw [h1,h2,h3,h4,h5,h6,h7,h12]; rfl),hbw⟩
      ·have h6 : hasM l a d = false := h6
       refine brF ?_
       refine brF ?_
       refine Calls.mono (hasPair_c h.stores h.ws hA hD) ?_
       rintro e _ ⟨rfl,rfl⟩
       refine And.intro (fun h15 => ?_) (fun h15 => ?_)
       ·have h15 : hasM s a d = true := h15
        refine Calls.mono (write_c h ha) ?_
        rintro e _ ⟨rfl,rfl⟩
        refine And.intro (fun h16 => ?_) (fun h16 => ?_)
        ·have h16 : isW x a = true := h16
         refine Calls.mono (write_c h hd) ?_
         rintro e _ ⟨rfl,rfl⟩
         exact ⟨rb (by show _ = (hasM x.dt a d || ((hasM x.ct a d && isW x d) || (hasM x.rm a d || (hasM f a d || ((hasM l a d && (isR x a && isR x d)) || (hasM s a d && (isW x a && isW x d))))))); rw [h1,h2,h3,h4,h5,h6,h15,h16]; rfl),hbw⟩
        ·have h16 : isW x a = false := h16
         exact ⟨rb (by show _ = (hasM x.dt a d || ((hasM x.ct a d && isW x d) || (hasM x.rm a d || (hasM f a d || ((hasM l a d && (isR x a && isR x d)) || (hasM s a d && (isW x a && isW x d))))))); rw [h1,h2,h3,h4,h5,h6,h15,h16]; rfl),hbw⟩
       ·have h15 : hasM s a d = false := h15
        refine brF ?_
        exact ⟨rb (by show _ = (hasM x.dt a d || ((hasM x.ct a d && isW x d) || (hasM x.rm a d || (hasM f a d || ((hasM l a d && (isR x a && isR x d)) || (hasM s a d && (isW x a && isW x d))))))); rw [h1,h2,h3,h4,h5,h6,h15]; rfl),hbw⟩
  ·have h2 : hasM x.ct a d = false := h2
   refine brF ?_
   refine Calls.mono (hasPair_c (ex_rel h.cells (exp_rm x q c)) h.v.rm hA hD) ?_
   rintro e _ ⟨rfl,rfl⟩
   refine And.intro (fun h18 => ?_) (fun h18 => ?_)
   ·have h18 : hasM x.rm a d = true := h18
    refine brT ?_
    refine brT ?_
    exact ⟨rb (by show _ = (hasM x.dt a d || ((hasM x.ct a d && isW x d) || (hasM x.rm a d || (hasM f a d || ((hasM l a d && (isR x a && isR x d)) || (hasM s a d && (isW x a && isW x d))))))); rw [h1,h2,h18]; rfl),hbw⟩
   ·have h18 : hasM x.rm a d = false := h18
    refine Calls.mono (hasPair_c h.full h.wf hA hD) ?_
    rintro e _ ⟨rfl,rfl⟩
    refine And.intro (fun h19 => ?_) (fun h19 => ?_)
    ·have h19 : hasM f a d = true := h19
     refine brT ?_
     exact ⟨rb (by show _ = (hasM x.dt a d || ((hasM x.ct a d && isW x d) || (hasM x.rm a d || (hasM f a d || ((hasM l a d && (isR x a && isR x d)) || (hasM s a d && (isW x a && isW x d))))))); rw [h1,h2,h18,h19]; rfl),hbw⟩
    ·have h19 : hasM f a d = false := h19
     refine Calls.mono (hasPair_c h.loads h.wl hA hD) ?_
     rintro e _ ⟨rfl,rfl⟩
     refine And.intro (fun h20 => ?_) (fun h20 => ?_)
     ·have h20 : hasM l a d = true := h20
      refine Calls.mono (read_c h ha) ?_
      rintro e _ ⟨rfl,rfl⟩
      refine And.intro (fun h21 => ?_) (fun h21 => ?_)
      ·have h21 : isR x a = true := h21
       refine Calls.mono (read_c h hd) ?_
       rintro e _ ⟨rfl,rfl⟩
       refine And.intro (fun h22 => ?_) (fun h22 => ?_)
       ·have h22 : isR x d = true := h22
        exact ⟨rb (by show _ = (hasM x.dt a d || ((hasM x.ct a d && isW x d) || (hasM x.rm a d || (hasM f a d || ((hasM l a d && (isR x a && isR x d)) || (hasM s a d && (isW x a && isW x d))))))); rw [h1,h2,h18,h19,h20,h21,h22]; rfl),hbw⟩
       ·have h22 : isR x d = false := h22
        refine Calls.mono (hasPair_c h.stores h.ws hA hD) ?_
        rintro e _ ⟨rfl,rfl⟩
        refine And.intro (fun h23 => ?_) (fun h23 => ?_)
        ·have h23 : hasM s a d = true := h23
         refine Calls.mono (write_c h ha) ?_
         rintro e _ ⟨rfl,rfl⟩
         refine And.intro (fun h24 => ?_) (fun h24 => ?_)
         ·have h24 : isW x a = true := h24
          refine Calls.mono (write_c h hd) ?_
          rintro e _ ⟨rfl,rfl⟩
          exact ⟨rb (by show _ = (hasM x.dt a d || ((hasM x.ct a d && isW x d) || (hasM x.rm a d || (hasM f a d || ((hasM l a d && (isR x a && isR x d)) || (hasM s a d && (isW x a && isW x d))))))); rw [h1,h2,h18,h19,h20,h21,h22,h23,h24]; rfl),hbw⟩
         ·have h24 : isW x a = false := h24
          exact ⟨rb (by show _ = (hasM x.dt a d || ((hasM x.ct a d && isW x d) || (hasM x.rm a d || (hasM f a d || ((hasM l a d && (isR x a && isR x d)) || (hasM s a d && (isW x a && isW x d))))))); rw [h1,h2,h18,h19,h20,h21,h22,h23,h24]; rfl),hbw⟩
        ·have h23 : hasM s a d = false := h23
         refine brF ?_
         exact ⟨rb (by show _ = (hasM x.dt a d || ((hasM x.ct a d && isW x d) || (hasM x.rm a d || (hasM f a d || ((hasM l a d && (isR x a && isR x d)) || (hasM s a d && (isW x a && isW x d))))))); rw [h1,h2,h18,h19,h20,h21,h22,h23]; rfl),hbw⟩
      ·have h21 : isR x a = false := h21
       refine brF ?_
       refine Calls.mono (hasPair_c h.stores h.ws hA hD) ?_
       rintro e _ ⟨rfl,rfl⟩
       refine And.intro (fun h26 => ?_) (fun h26 => ?_)
       ·have h26 : hasM s a d = true := h26
        refine Calls.mono (write_c h ha) ?_
        rintro e _ ⟨rfl,rfl⟩
        refine And.intro (fun h27 => ?_) (fun h27 => ?_)
        ·have h27 : isW x a = true := h27
         refine Calls.mono (write_c h hd) ?_
         rintro e _ ⟨rfl,rfl⟩
         exact ⟨rb (by show _ = (hasM x.dt a d || ((hasM x.ct a d && isW x d) || (hasM x.rm a d || (hasM f a d || ((hasM l a d && (isR x a && isR x d)) || (hasM s a d && (isW x a && isW x d))))))); rw [h1,h2,h18,h19,h20,h21,h26,h27]; rfl),hbw⟩
        ·have h27 : isW x a = false := h27
         exact ⟨rb (by show _ = (hasM x.dt a d || ((hasM x.ct a d && isW x d) || (hasM x.rm a d || (hasM f a d || ((hasM l a d && (isR x a && isR x d)) || (hasM s a d && (isW x a && isW x d))))))); rw [h1,h2,h18,h19,h20,h21,h26,h27]; rfl),hbw⟩
       ·have h26 : hasM s a d = false := h26
        refine brF ?_
        exact ⟨rb (by show _ = (hasM x.dt a d || ((hasM x.ct a d && isW x d) || (hasM x.rm a d || (hasM f a d || ((hasM l a d && (isR x a && isR x d)) || (hasM s a d && (isW x a && isW x d))))))); rw [h1,h2,h18,h19,h20,h21,h26]; rfl),hbw⟩
     ·have h20 : hasM l a d = false := h20
      refine brF ?_
      refine brF ?_
      refine Calls.mono (hasPair_c h.stores h.ws hA hD) ?_
      rintro e _ ⟨rfl,rfl⟩
      refine And.intro (fun h29 => ?_) (fun h29 => ?_)
      ·have h29 : hasM s a d = true := h29
       refine Calls.mono (write_c h ha) ?_
       rintro e _ ⟨rfl,rfl⟩
       refine And.intro (fun h30 => ?_) (fun h30 => ?_)
       ·have h30 : isW x a = true := h30
        refine Calls.mono (write_c h hd) ?_
        rintro e _ ⟨rfl,rfl⟩
        exact ⟨rb (by show _ = (hasM x.dt a d || ((hasM x.ct a d && isW x d) || (hasM x.rm a d || (hasM f a d || ((hasM l a d && (isR x a && isR x d)) || (hasM s a d && (isW x a && isW x d))))))); rw [h1,h2,h18,h19,h20,h29,h30]; rfl),hbw⟩
       ·have h30 : isW x a = false := h30
        exact ⟨rb (by show _ = (hasM x.dt a d || ((hasM x.ct a d && isW x d) || (hasM x.rm a d || (hasM f a d || ((hasM l a d && (isR x a && isR x d)) || (hasM s a d && (isW x a && isW x d))))))); rw [h1,h2,h18,h19,h20,h29,h30]; rfl),hbw⟩
      ·have h29 : hasM s a d = false := h29
       refine brF ?_
       exact ⟨rb (by show _ = (hasM x.dt a d || ((hasM x.ct a d && isW x d) || (hasM x.rm a d || (hasM f a d || ((hasM l a d && (isR x a && isR x d)) || (hasM s a d && (isW x a && isW x d))))))); rw [h1,h2,h18,h19,h20,h29]; rfl),hbw⟩
end
end Go.Proofs.YtkpcgpmimejimaaGreatDoor
namespace Go.Proofs.YtkpcgpmimejimaaGreatDoor
open Go.Vc Go.RowKit Go.Sei
abbrev rulesL : List Value := [.nilFunc,.func (.func 82) #[] #[],.func (.func 83) #[] #[],.func (.func 84) #[] #[],.func (.func 88) #[] #[],.func (.func 89) #[] #[],.func (.func 91) #[] #[]]
section
variable {b c : Nat} {x : ExD} {q : Option Addr} {w : World} {f l s : RelD}
theorem rules_c : Calls Tryz.prog 59 #[] w fun e w' => e = .returned (.agg rulesL.toArray) ∧ Below w.heap.size w w' := by
 refine calls_of_M (S := sg 8) (sgOk _) (args := []) (.c .p .p) Tryz.func59 rfl rfl (Nat.le_of_ble_eq_true rfl) rfl ?_
 obtain ⟨L,hL⟩ : ∃ L,L = w.heap.size := ⟨_,rfl⟩
 refine ⟨Unit,fun _ => ⟨[(0,At0 L)],[]⟩,fun _ X => X.heap[L]? = some (.cells #[.nilFunc,.nilFunc,.nilFunc,.nilFunc,.nilFunc,.nilFunc,.nilFunc] 108 (0,0)) ∧ Below w.heap.size w X,⟨(),⟨.cons (by rw [hL]; rfl) .nil,rfl⟩,by rw [hL]; exact hnew w _,(Below.refl _ w).alloc (Nat.le_refl _) _⟩,?_⟩
 rintro _ X ⟨f0,hbX⟩
 refine ⟨[.func (.func 82) #[] #[]],by kernel_rfl,?_⟩
 refine ⟨[.func (.func 83) #[] #[]],by kernel_rfl,?_⟩
 refine ⟨[.func (.func 84) #[] #[]],by kernel_rfl,?_⟩
 refine ⟨[.func (.func 88) #[] #[]],by kernel_rfl,?_⟩
 refine ⟨[.func (.func 89) #[] #[]],by kernel_rfl,?_⟩
 refine ⟨[.func (.func 91) #[] #[]],by kernel_rfl,?_⟩
 refine ⟨rulesL,by kernel_rfl,?_⟩
 refine store_box (v := .agg rulesL.toArray) (ttOk.get 108 _ rfl) f0 rfl rfl rfl ?_
 exact ⟨rulesL,rfl,cells_block (setRow_new f0),rfl,below_setRow hbX (by omega) _⟩
theorem kept1_c {S Rb Mb Sv g a d : Nat} {m : UInt8} {K : Bool} (hs : ScnV w S x q c f l s) (fSv : w.heap[Sv]? = some (.cells #[At0 S] 102 (0,0))) (fR : w.heap[Rb]? = some (.cells rulesL.toArray 108 (0,0))) (fM : w.heap[Mb]? = some (.cells #[u8 m] 5 (0,0)))
  (hm7 : m.toNat < 7) (hm : rulesL[m.toNat]? = some (.func (.func g) #[] #[])) (hok : calleeOk (sg 0) g = true) (hK : ∀ X,Below w.heap.size w X → Calls Tryz.prog g #[At0 S,i64 (a : Nat),i64 (d : Nat)] X fun e Y => e = .returned (.bool K) ∧ Below X.heap.size X Y) (ha : a < x.ev.length) (hd : d < x.ev.length) :
  Calls Tryz.prog 60 #[i64 (a : Nat),i64 (d : Nat),At0 Sv,At0 Rb,At0 Mb] w fun e w' => e = .returned (.bool (hasM x.po a d && (accA x a && (accA x d && K)))) ∧ Below w.heap.size w w' := by
 refine calls_of_E (S := sg 47) (sgOk _) (args := [i64 (a : Nat),i64 (d : Nat),At0 Sv,At0 Rb,At0 Mb]) Tryz.func60 rfl rfl (Nat.le_of_ble_eq_true rfl) rfl ?_
 have hn := hs.v.n
 have fx := hs.cells
 obtain ⟨bq,oq,hqe,hb,hat⟩ := ev_ptr hs.v.ev ha
 obtain ⟨bq2,oq2,hqe2,hb2,hat2⟩ := ev_ptr hs.v.ev hd
 rw [hqe] at hqe2
 simp only [Option.some.injEq,Addr.mk.injEq,and_true] at hqe2
 rw [← hqe2.1,← hqe2.2] at hat2
 have hpo := hs.v.po
 subst hqe
 have dw : Below w.heap.size w w.drew := (Below.refl _ _).drew
 refine DrawE.ord [] [0,1,2,3,4,5,6,7,8,9,10,11,12,13,14,15,16,17,18,19,20,21,22,23,24,25,26,27,28,29,30,31,32,33,34,35,36,37,38,39] (by kernel_rfl) ?_
 refine ⟨At0 S,cells_at (cells_block (hdr fSv)) (i := 0) rfl,?_⟩
 refine Calls.mono (hasPair_c (ex_rel (cells_below dw fx) (exp_po x _ c)) hpo (by omega) (by omega)) ?_
 rintro e _ ⟨rfl,rfl⟩
 refine ⟨Below.refl _ _,?_⟩
 refine And.intro (fun h1 => ?_) (fun h1 => ?_)
 ·have h1 : hasM x.po a d = true := h1
  refine ⟨At0 S,cells_at (cells_block (hdr fSv)) (i := 0) rfl,?_⟩
  refine ⟨_,ex_cell (cells_below dw fx),?_⟩
  refine ⟨a,rfl,ha,?_⟩
  refine ⟨evE.enc (evA x a),rfl,cells_below dw hat,Nat.lt_of_lt_of_le hb dw.size,?_⟩
  refine Calls.mono access_c ?_
  rintro e X ⟨rfl,hbX⟩
  refine ⟨hbX,?_⟩
  have bX := dw.trans hbX
  rw [acc_eq]
  refine And.intro (fun h2 => ?_) (fun h2 => ?_)
  ·have h2 : accA x a = true := h2
   refine ⟨At0 S,cells_at (cells_block (block_below bX fSv)) (i := 0) rfl,?_⟩
   refine ⟨_,ex_cell (cells_below bX fx),?_⟩
   refine ⟨d,rfl,hd,?_⟩
   refine ⟨evE.enc (evA x d),rfl,cells_below bX hat2,Nat.lt_of_lt_of_le hb bX.size,?_⟩
   refine Calls.mono access_c ?_
   rintro e Y ⟨rfl,hbY⟩
   refine ⟨hbY,?_⟩
   have bY := bX.trans (hbY.mono bX.size)
   rw [acc_eq]
   refine And.intro (fun h3 => ?_) (fun h3 => ?_)
   ·have h3 : accA x d = true := h3
    refine ⟨u8 m,cells_at (cells_block (block_below bY fM)) (i := 0) rfl,?_⟩
    refine ⟨m.toNat,rfl,hm7,?_⟩
    refine ⟨.func (.func g) #[] #[],by have := cells_at (cells_block (block_below bY fR)) (i := m.toNat) (v := .func (.func g) #[] #[]) hm; rw [Nat.mul_one]; exact this,?_⟩
    refine ⟨At0 S,cells_at (cells_block (block_below bY fSv)) (i := 0) rfl,?_⟩
    refine callE_mk hok (hK Y bY) ?_
    rintro e Z ⟨rfl,hbZ⟩
    refine ⟨_,rfl,hbZ,?_⟩
    exact ⟨rb (by rw [h1,h2,h3]; rfl),bY.trans (hbZ.mono bY.size)⟩
   ·have h3 : accA x d = false := h3
    exact ⟨rb (by rw [h1,h2,h3]; rfl),bY⟩
  ·have h2 : accA x a = false := h2
   refine brF ?_
   exact ⟨rb (by rw [h1,h2]; rfl),bX⟩
 ·have h1 : hasM x.po a d = false := h1
  refine brF ?_
  refine brF ?_
  exact ⟨rb (by rw [h1]; rfl),dw⟩
theorem known_cases {m : UInt8} (h : knownM m.toNat = true) : m = 1 ∨ m = 2 ∨ m = 3 ∨ m = 4 ∨ m = 5 ∨ m = 6 := by
 unfold knownM at h
 rw [Bool.and_eq_true,decide_eq_true_eq,decide_eq_true_eq] at h
 simp only [← UInt8.toNat_inj]
 show m.toNat = 1 ∨ m.toNat = 2 ∨ m.toNat = 3 ∨ m.toNat = 4 ∨ m.toNat = 5 ∨ m.toNat = 6
 omega
theorem keeps_c {S Rb Mb Sv a d : Nat} {m : UInt8} (hk : knownM m.toNat = true) (hs : ScnV w S x q c f l s) (fSv : w.heap[Sv]? = some (.cells #[At0 S] 102 (0,0))) (fR : w.heap[Rb]? = some (.cells rulesL.toArray 108 (0,0))) (fM : w.heap[Mb]? = some (.cells #[u8 m] 5 (0,0)))
  (ha : a < x.ev.length) (hd : d < x.ev.length) :
  Calls Tryz.prog 60 #[i64 (a : Nat),i64 (d : Nat),At0 Sv,At0 Rb,At0 Mb] w fun e w' => e = .returned (.bool (hasM x.po a d && (accA x a && (accA x d && keepM m.toNat x f l s a d)))) ∧ Below w.heap.size w w' := by
 rcases known_cases hk with rfl | rfl | rfl | rfl | rfl | rfl
 ·exact kept1_c (g := 82) hs fSv fR fM (by decide) rfl (by kernel_rfl) (fun X hb => rule1_c) ha hd
 ·exact kept1_c (g := 83) hs fSv fR fM (by decide) rfl (by kernel_rfl) (fun X hb => rule2_c) ha hd
 ·exact kept1_c (g := 84) hs fSv fR fM (by decide) rfl (by kernel_rfl) (fun X hb => rule3_c (hs.below hb) ha hd) ha hd
 ·exact kept1_c (g := 88) hs fSv fR fM (by decide) rfl (by kernel_rfl) (fun X hb => rule4_c (hs.below hb) ha hd) ha hd
 ·exact kept1_c (g := 89) hs fSv fR fM (by decide) rfl (by kernel_rfl) (fun X hb => rule5_c (hs.below hb) ha hd) ha hd
 ·exact kept1_c (g := 91) hs fSv fR fM (by decide) rfl (by kernel_rfl) (fun X hb => rule6_c (hs.below hb) ha hd) ha hd
theorem rel_put {X : World} {S o : Nat} {T : TypeId} {A Z : List Value} {r0 r : RelD} (h : X.heap[S]? = some (.cells (A ++ (relC r0 ++ Z)).toArray T (0,0))) (hA : A.length = o) {K : World → Prop}
  (k : ∀ Y,Y.heap[S]? = some (.cells (A ++ (relC r ++ Z)).toArray T (0,0)) → X.grownBy Y (some S) → Y.heap.size = X.heap.size → K Y) :
  SatR ((storeVar 27 ⟨S,0 + o,none⟩ (.agg (relC r).toArray)).run Tryz.prog X) fun _ w' => K w' := by
 rw [Nat.zero_add]
 refine store_part (ttOk.get 27 _ rfl) h (o := o) (v := .agg (relC r).toArray) (relC_len _) (by show o + (relC r).length ≤ (A ++ (relC r0 ++ Z)).length; rw [List.length_append,List.length_append,relC_len,relC_len]; omega) (relC_one _) fun Y fY gY sY => k Y (fY.trans ?_) gY sY
 show some (Obj.cells ((A ++ (relC r0 ++ Z)).take o ++ relC r ++ (A ++ (relC r0 ++ Z)).drop (o + (relC r).length)).toArray T (0,0)) = _
 congr 3
 rw [← hA,List.take_left,relC_len,List.append_assoc,← List.drop_drop,List.drop_left,← relC_len r0,List.drop_left]
theorem kept_c {m : UInt8} (hk : knownM m.toNat = true) (fx : ExH w b x q c) (hv : ExV w x q) (hT : Tz64M w) : Calls Tryz.prog 31 #[u8 m,At0 b] w fun e w' => e = .returned (.agg (relC (keptM m.toNat x)).toArray) ∧ Below w.heap.size w w' := by
 refine calls_of_M (S := sg 35) (sgOk _) (args := [u8 m,At0 b]) (.c .p (.c .p (.c .p (.c .p (.c .p .p))))) Tryz.func31 rfl rfl (Nat.le_of_ble_eq_true rfl) rfl ?_
 obtain ⟨L,hL⟩ : ∃ L,L = w.heap.size := ⟨_,rfl⟩
 have hn := hv.n
 refine ⟨Unit,fun _ => ⟨[(1,At0 b),(2,At0 L),(4,At0 (L + 1))],[]⟩,fun _ X => X.heap[L]? = some (.cells #[u8 m] 5 (0,0)) ∧ RelH X (L + 1) zeroR ∧ X.heap.size = L + 2 ∧ Below w.heap.size w X,?_,?_⟩
 ·have s1 := World.size_alloc w (.cells #[u8 m] 5)
  have h2 := hnew (w.alloc (.cells #[u8 m] 5)) (.cells (relC zeroR).toArray 27)
  have s2 := World.size_alloc (w.alloc (.cells #[u8 m] 5)) (.cells (relC zeroR).toArray 27)
  rw [s1] at h2 s2
  have b1 : Below w.heap.size w (w.alloc (.cells #[u8 m] 5)) := (Below.refl _ w).alloc (Nat.le_refl _) _
  exact ⟨(),⟨.cons rfl (.cons (by rw [hL]; rfl) (.cons (by rw [hL,← s1]; rfl) .nil)),rfl⟩,by rw [hL]; exact hold _ (hnew w _),by rw [hL]; exact h2,by rw [hL]; exact s2,b1.alloc b1.size _⟩
 rintro _ X ⟨fM,f0,sX,hbX⟩
 have fX := block_below hbX fx
 refine ⟨Unit,fun _ => ⟨[(1,At0 b),(2,At0 L),(4,At0 (L + 1)),(5,At0 (L + 3))],[]⟩,fun _ Y => Y.heap[L + 2]? = some (.cells (exC x q c ++ (relC zeroR ++ (relC zeroR ++ relC zeroR))).toArray 104 (0,0)) ∧ Y.heap[L + 3]? = some (.cells #[At0 (L + 2)] 102 (0,0)) ∧ Y.heap.size = L + 4 ∧ Below X.heap.size X Y,?_,?_⟩
 ·refine ⟨exC x q c,exC_len _ _ _,cells_block fX,hlt fX,?_⟩
  refine ⟨exC x q c ++ (relC zeroR ++ (relC zeroR ++ relC zeroR)),by kernel_rfl,?_⟩
  have s3 := World.size_alloc X (.cells (exC x q c ++ (relC zeroR ++ (relC zeroR ++ relC zeroR))).toArray 104)
  refine store_new (X := X.alloc (.cells (exC x q c ++ (relC zeroR ++ (relC zeroR ++ relC zeroR))).toArray 104)) (v := .pointer (some ⟨X.heap.size,0,none⟩)) (ttOk.get 102 _ rfl) rfl rfl rfl fun Z hbZ fZ sZ => ?_
  rw [s3] at fZ sZ
  rw [sX] at fZ sZ s3
  have b1 : Below X.heap.size X (X.alloc (.cells (exC x q c ++ (relC zeroR ++ (relC zeroR ++ relC zeroR))).toArray 104)) := (Below.refl _ X).alloc (Nat.le_refl _) _
  refine ⟨(),⟨.cons rfl (.cons rfl (.cons rfl (.cons (by rw [← s3]; rfl) .nil))),rfl⟩,?_,fZ,sZ,b1.trans (hbZ.mono b1.size)⟩
  refine block_below hbZ ?_
  rw [← sX]
  exact hnew X _
 rintro _ Y ⟨fS,fP,sY,hbY⟩
 have hbwY := hbX.trans (hbY.mono hbX.size)
 have fY := block_below hbwY fx
 replace fM := block_below hbY fM
 replace f0 := block_below hbY f0
 have hwX := hbX.size
 have hbL : b < L := by rw [hL]; exact hlt fx
 refine ⟨Unit,fun _ => ⟨[(1,At0 b),(2,At0 L),(4,At0 (L + 1)),(5,At0 (L + 3))],[]⟩,fun _ Z => ScnV Z (L + 2) x q c (fencedM x 3) (fencedM x 4) (fencedM x 5) ∧ Z.heap[L + 3]? = some (.cells #[At0 (L + 2)] 102 (0,0)) ∧ Z.heap[L]? = some (.cells #[u8 m] 5 (0,0)) ∧ RelH Z (L + 1) zeroR ∧ ExH Z b x q c ∧ L + 4 ≤ Z.heap.size ∧ Below w.heap.size w Z,?_,?_⟩
 ·have dY : Below Y.heap.size Y Y.drew := (Below.refl _ _).drew
  obtain ⟨Y1,hY1⟩ : ∃ Y1,Y1 = Y.drew := ⟨_,rfl⟩
  have bY1 : Below Y.heap.size Y Y1 := by rw [hY1]; exact dY
  have ld0 : ∀ {W},Below Y.heap.size Y W → W.cell? ⟨L + 3,0,none⟩ = some (At0 (L + 2)) := fun hW => by
   have h2 := cells_at (cells_block (block_below hW fP)) (i := 0) (v := At0 (L + 2)) rfl
   exact h2
  have fen : ∀ (md : UInt8) {W},Below Y.heap.size Y W → Calls Tryz.prog 47 #[At0 b,u8 md] W fun e w' => e = .returned (.agg (relC (fencedM x md)).toArray) ∧ Below W.heap.size W w' := fun md {W} hW =>
   have h2 := hbwY.trans (hW.mono hbwY.size)
   fenced_c (block_below h2 fx) (hv.below h2) (hT.below h2)
  have ld1 : ∀ W,(∃ C,Below Y.heap.size Y C ∧ C.grownBy W (some (L + 2))) → W.cell? ⟨L + 3,0,none⟩ = some (At0 (L + 2)) := fun W ⟨C,bC,hW⟩ => by
   have fPC := block_below bC fP
   have := (hW.block (L + 3) (hlt fPC) (by simp)).trans fPC
   have h2 := cells_at (cells_block this) (i := 0) (v := At0 (L + 2)) rfl
   exact h2
  have s1 : ∀ {C},Below Y.heap.size Y C → ∀ {K : World → Prop},(∀ D,(D.heap[L + 2]? = some (.cells ((exC x q c ++ relC (fencedM x 3)) ++ (relC zeroR ++ relC zeroR)).toArray 104 (0,0)) ∧ ∃ C,Below Y.heap.size Y C ∧ C.grownBy D (some (L + 2))) → K D) → SatR ((storeVar 27 ⟨L + 2,0 + 333,none⟩ (.agg (relC (fencedM x 3)).toArray)).run Tryz.prog C) fun _ w' => K w' := fun {C} bC {K} k =>
   rel_put (o := 333) (A := exC x q c) (Z := relC zeroR ++ relC zeroR) (r := fencedM x 3) (block_below bC fS) (exC_len _ _ _) fun D fD gD sD => k D ⟨by rw [fD]; simp only [List.append_assoc],C,bC,gD⟩
  have s2 : ∀ D,(D.heap[L + 2]? = some (.cells ((exC x q c ++ relC (fencedM x 3)) ++ (relC zeroR ++ relC zeroR)).toArray 104 (0,0)) ∧ ∃ C,Below Y.heap.size Y C ∧ C.grownBy D (some (L + 2))) → ∀ {K : World → Prop},(∀ F,(F.heap[L + 2]? = some (.cells ((exC x q c ++ (relC (fencedM x 3) ++ relC (fencedM x 4))) ++ (relC zeroR ++ [])).toArray 104 (0,0)) ∧ ∃ C,Below Y.heap.size Y C ∧ C.grownBy F (some (L + 2))) → K F) → SatR ((storeVar 27 ⟨L + 2,0 + 382,none⟩ (.agg (relC (fencedM x 4)).toArray)).run Tryz.prog D) fun _ w' => K w' := fun D ⟨fD,C,bC,gD⟩ {K} k =>
   rel_put (o := 382) (A := exC x q c ++ relC (fencedM x 3)) (Z := relC zeroR) (r := fencedM x 4) fD (by rw [List.length_append,exC_len,relC_len]) fun F fF gF sF => k F ⟨by rw [fF]; simp only [List.append_assoc,List.append_nil],C,bC,grown_trans gD gF⟩
  have pw : ∀ md,WrdR (fencedM x md).to := fun md => then_wrd (then_wrd hv.po fun i hi => by
   unfold idR
   refine build_wrd (fun i _ h48 => ?_) i hi
   exact Nat.lt_of_le_of_lt Nat.and_le_right (pow_lt64 (by omega))) hv.po
  have s3 : ∀ F,(F.heap[L + 2]? = some (.cells ((exC x q c ++ (relC (fencedM x 3) ++ relC (fencedM x 4))) ++ (relC zeroR ++ [])).toArray 104 (0,0)) ∧ ∃ C,Below Y.heap.size Y C ∧ C.grownBy F (some (L + 2))) → ∀ {K : World → Prop},(∀ G,(ScnV G (L + 2) x q c (fencedM x 3) (fencedM x 4) (fencedM x 5) ∧ G.heap[L + 3]? = some (.cells #[At0 (L + 2)] 102 (0,0)) ∧ G.heap[L]? = some (.cells #[u8 m] 5 (0,0)) ∧ RelH G (L + 1) zeroR ∧ ExH G b x q c ∧ L + 4 ≤ G.heap.size ∧ Below w.heap.size w G) → K G) → SatR ((storeVar 27 ⟨L + 2,0 + 431,none⟩ (.agg (relC (fencedM x 5)).toArray)).run Tryz.prog F) fun _ w' => K w' := fun F ⟨fF,C,bC,gF⟩ {K} k =>
   rel_put (o := 431) (A := exC x q c ++ (relC (fencedM x 3) ++ relC (fencedM x 4))) (Z := []) (r := fencedM x 5) fF (by rw [List.length_append,List.length_append,exC_len,relC_len,relC_len]) fun G fG gG sG => k G (by
    have gCG : C.grownBy G (some (L + 2)) := grown_trans gF gG
    have bwC := hbwY.trans (bC.mono hbwY.size)
    have bCG : Below w.heap.size C G := below_grown gCG bwC.size (by omega)
    have bwG : Below w.heap.size w G := bwC.trans bCG
    have keep : ∀ {j : Nat} {o : Obj},j ≠ L + 2 → Y.heap[j]? = some o → G.heap[j]? = some o := fun {j o} hj h => by
     have h2 := block_below bC h
     exact (gCG.block j (hlt h2) (by simpa using hj)).trans h2
    refine ⟨⟨?_,hv.below bwG,pw 3,pw 4,pw 5⟩,keep (by omega) fP,keep (by omega) fM,keep (by omega) f0,keep (by omega) fY,by have := bC.size; have := gCG.size; omega,bwG⟩
    rw [fG]
    simp only [List.append_assoc,List.append_nil])
  refine DrawE.treeR [11,14,17] (.op 0 (.op 3 (.op 5 (.op 7 (.alt (.op 4 (.alt (.op 6 (.alt (.op 8 (.op 9 (.op 10 (.alt (.op 11 (.alt (.op 1 (.op 12 (.op 13 (.alt (.op 14 (.op 2 (.op 15 (.op 16 (.op 17 (.nil)))))) (.op 2 (.op 14 (.op 15 (.op 16 (.op 17 (.nil)))))))))) (.op 2 (.op 1 (.op 12 (.op 13 (.op 14 (.op 15 (.op 16 (.op 17 (.nil))))))))))) (.alt (.op 1 (.alt (.op 11 (.op 12 (.op 13 (.alt (.op 14 (.op 2 (.op 15 (.op 16 (.op 17 (.nil)))))) (.op 2 (.op 14 (.op 15 (.op 16 (.op 17 (.nil)))))))))) (.op 2 (.op 11 (.op 12 (.op 13 (.op 14 (.op 15 (.op 16 (.op 17 (.nil))))))))))) (.op 2 (.alt (.op 11 (.op 1 (.op 12 (.op 13 (.op 14 (.op 15 (.op 16 (.op 17 (.nil))))))))) (.op 1 (.op 11 (.op 12 (.op 13 (.op 14 (.op 15 (.op 16 (.op 17 (.nil)))))))))))))))) (.alt (.op 1 (.alt (.op 8 (.op 9 (.op 10 (.alt (.op 11 (.op 12 (.op 13 (.alt (.op 14 (.op 2 (.op 15 (.op 16 (.op 17 (.nil)))))) (.op 2 (.op 14 (.op 15 (.op 16 (.op 17 (.nil)))))))))) (.op 2 (.op 11 (.op 12 (.op 13 (.op 14 (.op 15 (.op 16 (.op 17 (.nil))))))))))))) (.op 2 (.op 8 (.op 9 (.op 10 (.op 11 (.op 12 (.op 13 (.op 14 (.op 15 (.op 16 (.op 17 (.nil)))))))))))))) (.op 2 (.alt (.op 8 (.op 9 (.op 10 (.alt (.op 11 (.op 1 (.op 12 (.op 13 (.op 14 (.op 15 (.op 16 (.op 17 (.nil))))))))) (.op 1 (.op 11 (.op 12 (.op 13 (.op 14 (.op 15 (.op 16 (.op 17 (.nil))))))))))))) (.op 1 (.op 8 (.op 9 (.op 10 (.op 11 (.op 12 (.op 13 (.op 14 (.op 15 (.op 16 (.op 17 (.nil))))))))))))))))) (.alt (.op 1 (.alt (.op 6 (.alt (.op 8 (.op 9 (.op 10 (.alt (.op 11 (.op 12 (.op 13 (.alt (.op 14 (.op 2 (.op 15 (.op 16 (.op 17 (.nil)))))) (.op 2 (.op 14 (.op 15 (.op 16 (.op 17 (.nil)))))))))) (.op 2 (.op 11 (.op 12 (.op 13 (.op 14 (.op 15 (.op 16 (.op 17 (.nil))))))))))))) (.op 2 (.op 8 (.op 9 (.op 10 (.op 11 (.op 12 (.op 13 (.op 14 (.op 15 (.op 16 (.op 17 (.nil)))))))))))))) (.op 2 (.op 6 (.op 8 (.op 9 (.op 10 (.op 11 (.op 12 (.op 13 (.op 14 (.op 15 (.op 16 (.op 17 (.nil))))))))))))))) (.op 2 (.alt (.op 6 (.alt (.op 8 (.op 9 (.op 10 (.alt (.op 11 (.op 1 (.op 12 (.op 13 (.op 14 (.op 15 (.op 16 (.op 17 (.nil))))))))) (.op 1 (.op 11 (.op 12 (.op 13 (.op 14 (.op 15 (.op 16 (.op 17 (.nil))))))))))))) (.op 1 (.op 8 (.op 9 (.op 10 (.op 11 (.op 12 (.op 13 (.op 14 (.op 15 (.op 16 (.op 17 (.nil)))))))))))))) (.op 1 (.op 6 (.op 8 (.op 9 (.op 10 (.op 11 (.op 12 (.op 13 (.op 14 (.op 15 (.op 16 (.op 17 (.nil)))))))))))))))))) (.alt (.op 1 (.alt (.op 4 (.alt (.op 6 (.alt (.op 8 (.op 9 (.op 10 (.alt (.op 11 (.op 12 (.op 13 (.alt (.op 14 (.op 2 (.op 15 (.op 16 (.op 17 (.nil)))))) (.op 2 (.op 14 (.op 15 (.op 16 (.op 17 (.nil)))))))))) (.op 2 (.op 11 (.op 12 (.op 13 (.op 14 (.op 15 (.op 16 (.op 17 (.nil))))))))))))) (.op 2 (.op 8 (.op 9 (.op 10 (.op 11 (.op 12 (.op 13 (.op 14 (.op 15 (.op 16 (.op 17 (.nil)))))))))))))) (.op 2 (.op 6 (.op 8 (.op 9 (.op 10 (.op 11 (.op 12 (.op 13 (.op 14 (.op 15 (.op 16 (.op 17 (.nil))))))))))))))) (.op 2 (.op 4 (.op 6 (.op 8 (.op 9 (.op 10 (.op 11 (.op 12 (.op 13 (.op 14 (.op 15 (.op 16 (.op 17 (.nil)))))))))))))))) (.op 2 (.alt (.op 4 (.alt (.op 6 (.alt (.op 8 (.op 9 (.op 10 (.alt (.op 11 (.op 1 (.op 12 (.op 13 (.op 14 (.op 15 (.op 16 (.op 17 (.nil))))))))) (.op 1 (.op 11 (.op 12 (.op 13 (.op 14 (.op 15 (.op 16 (.op 17 (.nil))))))))))))) (.op 1 (.op 8 (.op 9 (.op 10 (.op 11 (.op 12 (.op 13 (.op 14 (.op 15 (.op 16 (.op 17 (.nil)))))))))))))) (.op 1 (.op 6 (.op 8 (.op 9 (.op 10 (.op 11 (.op 12 (.op 13 (.op 14 (.op 15 (.op 16 (.op 17 (.nil))))))))))))))) (.op 1 (.op 4 (.op 6 (.op 8 (.op 9 (.op 10 (.op 11 (.op 12 (.op 13 (.op 14 (.op 15 (.op 16 (.op 17 (.nil)))))))))))))))))))))) (by kernel_rfl) ?_
  rw [← hY1]
  refine ⟨At0 (L + 2),ld0 bY1,?_⟩
  refine And.intro ?_ (And.intro ?_ ?_)
  ·refine Calls.mono (fen 3 bY1) ?_
   rintro e A ⟨rfl,hbA⟩
   refine ⟨hbA,?_⟩
   have bA := bY1.trans (hbA.mono bY1.size)
   refine And.intro ?_ (And.intro ?_ ?_)
   ·refine Calls.mono (fen 4 bA) ?_
    rintro e B ⟨rfl,hbB⟩
    refine ⟨hbB,?_⟩
    have bB := bA.trans (hbB.mono bA.size)
    refine And.intro ?_ (And.intro ?_ ?_)
    ·refine Calls.mono (fen 5 bB) ?_
     rintro e C ⟨rfl,hbC⟩
     refine ⟨hbC,?_⟩
     have bC := bB.trans (hbC.mono bB.size)
     refine And.intro ?_ (And.intro ?_ ?_)
     ·refine s1 bC fun D hD => ?_
      refine And.intro ?_ ?_
      ·refine ⟨At0 (L + 2),ld1 D hD.2,?_⟩
       refine And.intro ?_ ?_
       ·refine s2 D hD fun F hF => ?_
        refine ⟨At0 (L + 2),ld1 F hF.2,?_⟩
        refine s3 F hF fun G hG => ?_
        exact ⟨(),⟨.cons rfl (.cons rfl (.cons rfl (.cons rfl .nil))),rfl⟩,hG⟩
       ·refine ⟨At0 (L + 2),ld1 D hD.2,?_⟩
        refine s2 D hD fun F hF => ?_
        refine s3 F hF fun G hG => ?_
        exact ⟨(),⟨.cons rfl (.cons rfl (.cons rfl (.cons rfl .nil))),rfl⟩,hG⟩
      ·refine ⟨At0 (L + 2),ld1 D hD.2,?_⟩
       refine ⟨At0 (L + 2),ld1 D hD.2,?_⟩
       refine s2 D hD fun F hF => ?_
       refine s3 F hF fun G hG => ?_
       exact ⟨(),⟨.cons rfl (.cons rfl (.cons rfl (.cons rfl .nil))),rfl⟩,hG⟩
     ·refine ⟨At0 (L + 2),ld0 bC,?_⟩
      refine And.intro ?_ ?_
      ·refine s1 bC fun D hD => ?_
       refine And.intro ?_ ?_
       ·refine s2 D hD fun F hF => ?_
        refine ⟨At0 (L + 2),ld1 F hF.2,?_⟩
        refine s3 F hF fun G hG => ?_
        exact ⟨(),⟨.cons rfl (.cons rfl (.cons rfl (.cons rfl .nil))),rfl⟩,hG⟩
       ·refine ⟨At0 (L + 2),ld1 D hD.2,?_⟩
        refine s2 D hD fun F hF => ?_
        refine s3 F hF fun G hG => ?_
        exact ⟨(),⟨.cons rfl (.cons rfl (.cons rfl (.cons rfl .nil))),rfl⟩,hG⟩
      ·refine ⟨At0 (L + 2),ld0 bC,?_⟩
       refine s1 bC fun D hD => ?_
       refine s2 D hD fun F hF => ?_
       refine s3 F hF fun G hG => ?_
       exact ⟨(),⟨.cons rfl (.cons rfl (.cons rfl (.cons rfl .nil))),rfl⟩,hG⟩
     ·refine ⟨At0 (L + 2),ld0 bC,?_⟩
      refine And.intro ?_ ?_
      ·refine s1 bC fun D hD => ?_
       refine ⟨At0 (L + 2),ld1 D hD.2,?_⟩
       refine s2 D hD fun F hF => ?_
       refine s3 F hF fun G hG => ?_
       exact ⟨(),⟨.cons rfl (.cons rfl (.cons rfl (.cons rfl .nil))),rfl⟩,hG⟩
      ·refine ⟨At0 (L + 2),ld0 bC,?_⟩
       refine s1 bC fun D hD => ?_
       refine s2 D hD fun F hF => ?_
       refine s3 F hF fun G hG => ?_
       exact ⟨(),⟨.cons rfl (.cons rfl (.cons rfl (.cons rfl .nil))),rfl⟩,hG⟩
    ·refine ⟨At0 (L + 2),ld0 bB,?_⟩
     refine And.intro ?_ ?_
     ·refine Calls.mono (fen 5 bB) ?_
      rintro e C ⟨rfl,hbC⟩
      refine ⟨hbC,?_⟩
      have bC := bB.trans (hbC.mono bB.size)
      refine And.intro ?_ ?_
      ·refine s1 bC fun D hD => ?_
       refine And.intro ?_ ?_
       ·refine s2 D hD fun F hF => ?_
        refine ⟨At0 (L + 2),ld1 F hF.2,?_⟩
        refine s3 F hF fun G hG => ?_
        exact ⟨(),⟨.cons rfl (.cons rfl (.cons rfl (.cons rfl .nil))),rfl⟩,hG⟩
       ·refine ⟨At0 (L + 2),ld1 D hD.2,?_⟩
        refine s2 D hD fun F hF => ?_
        refine s3 F hF fun G hG => ?_
        exact ⟨(),⟨.cons rfl (.cons rfl (.cons rfl (.cons rfl .nil))),rfl⟩,hG⟩
      ·refine ⟨At0 (L + 2),ld0 bC,?_⟩
       refine s1 bC fun D hD => ?_
       refine s2 D hD fun F hF => ?_
       refine s3 F hF fun G hG => ?_
       exact ⟨(),⟨.cons rfl (.cons rfl (.cons rfl (.cons rfl .nil))),rfl⟩,hG⟩
     ·refine ⟨At0 (L + 2),ld0 bB,?_⟩
      refine Calls.mono (fen 5 bB) ?_
      rintro e C ⟨rfl,hbC⟩
      refine ⟨hbC,?_⟩
      have bC := bB.trans (hbC.mono bB.size)
      refine s1 bC fun D hD => ?_
      refine s2 D hD fun F hF => ?_
      refine s3 F hF fun G hG => ?_
      exact ⟨(),⟨.cons rfl (.cons rfl (.cons rfl (.cons rfl .nil))),rfl⟩,hG⟩
    ·refine ⟨At0 (L + 2),ld0 bB,?_⟩
     refine And.intro ?_ ?_
     ·refine Calls.mono (fen 5 bB) ?_
      rintro e C ⟨rfl,hbC⟩
      refine ⟨hbC,?_⟩
      have bC := bB.trans (hbC.mono bB.size)
      refine And.intro ?_ ?_
      ·refine s1 bC fun D hD => ?_
       refine ⟨At0 (L + 2),ld1 D hD.2,?_⟩
       refine s2 D hD fun F hF => ?_
       refine s3 F hF fun G hG => ?_
       exact ⟨(),⟨.cons rfl (.cons rfl (.cons rfl (.cons rfl .nil))),rfl⟩,hG⟩
      ·refine ⟨At0 (L + 2),ld0 bC,?_⟩
       refine s1 bC fun D hD => ?_
       refine s2 D hD fun F hF => ?_
       refine s3 F hF fun G hG => ?_
       exact ⟨(),⟨.cons rfl (.cons rfl (.cons rfl (.cons rfl .nil))),rfl⟩,hG⟩
     ·refine ⟨At0 (L + 2),ld0 bB,?_⟩
      refine Calls.mono (fen 5 bB) ?_
      rintro e C ⟨rfl,hbC⟩
      refine ⟨hbC,?_⟩
      have bC := bB.trans (hbC.mono bB.size)
      refine s1 bC fun D hD => ?_
      refine s2 D hD fun F hF => ?_
      refine s3 F hF fun G hG => ?_
      exact ⟨(),⟨.cons rfl (.cons rfl (.cons rfl (.cons rfl .nil))),rfl⟩,hG⟩
   ·refine ⟨At0 (L + 2),ld0 bA,?_⟩
    refine And.intro ?_ ?_
    ·refine Calls.mono (fen 4 bA) ?_
     rintro e B ⟨rfl,hbB⟩
     refine ⟨hbB,?_⟩
     have bB := bA.trans (hbB.mono bA.size)
     refine And.intro ?_ ?_
     ·refine Calls.mono (fen 5 bB) ?_
      rintro e C ⟨rfl,hbC⟩
      refine ⟨hbC,?_⟩
      have bC := bB.trans (hbC.mono bB.size)
      refine And.intro ?_ ?_
      ·refine s1 bC fun D hD => ?_
       refine And.intro ?_ ?_
       ·refine s2 D hD fun F hF => ?_
        refine ⟨At0 (L + 2),ld1 F hF.2,?_⟩
        refine s3 F hF fun G hG => ?_
        exact ⟨(),⟨.cons rfl (.cons rfl (.cons rfl (.cons rfl .nil))),rfl⟩,hG⟩
       ·refine ⟨At0 (L + 2),ld1 D hD.2,?_⟩
        refine s2 D hD fun F hF => ?_
        refine s3 F hF fun G hG => ?_
        exact ⟨(),⟨.cons rfl (.cons rfl (.cons rfl (.cons rfl .nil))),rfl⟩,hG⟩
      ·refine ⟨At0 (L + 2),ld0 bC,?_⟩
       refine s1 bC fun D hD => ?_
       refine s2 D hD fun F hF => ?_
       refine s3 F hF fun G hG => ?_
       exact ⟨(),⟨.cons rfl (.cons rfl (.cons rfl (.cons rfl .nil))),rfl⟩,hG⟩
     ·refine ⟨At0 (L + 2),ld0 bB,?_⟩
      refine Calls.mono (fen 5 bB) ?_
      rintro e C ⟨rfl,hbC⟩
      refine ⟨hbC,?_⟩
      have bC := bB.trans (hbC.mono bB.size)
      refine s1 bC fun D hD => ?_
      refine s2 D hD fun F hF => ?_
      refine s3 F hF fun G hG => ?_
      exact ⟨(),⟨.cons rfl (.cons rfl (.cons rfl (.cons rfl .nil))),rfl⟩,hG⟩
    ·refine ⟨At0 (L + 2),ld0 bA,?_⟩
     refine Calls.mono (fen 4 bA) ?_
     rintro e B ⟨rfl,hbB⟩
     refine ⟨hbB,?_⟩
     have bB := bA.trans (hbB.mono bA.size)
     refine Calls.mono (fen 5 bB) ?_
     rintro e C ⟨rfl,hbC⟩
     refine ⟨hbC,?_⟩
     have bC := bB.trans (hbC.mono bB.size)
     refine s1 bC fun D hD => ?_
     refine s2 D hD fun F hF => ?_
     refine s3 F hF fun G hG => ?_
     exact ⟨(),⟨.cons rfl (.cons rfl (.cons rfl (.cons rfl .nil))),rfl⟩,hG⟩
   ·refine ⟨At0 (L + 2),ld0 bA,?_⟩
    refine And.intro ?_ ?_
    ·refine Calls.mono (fen 4 bA) ?_
     rintro e B ⟨rfl,hbB⟩
     refine ⟨hbB,?_⟩
     have bB := bA.trans (hbB.mono bA.size)
     refine And.intro ?_ ?_
     ·refine Calls.mono (fen 5 bB) ?_
      rintro e C ⟨rfl,hbC⟩
      refine ⟨hbC,?_⟩
      have bC := bB.trans (hbC.mono bB.size)
      refine And.intro ?_ ?_
      ·refine s1 bC fun D hD => ?_
       refine ⟨At0 (L + 2),ld1 D hD.2,?_⟩
       refine s2 D hD fun F hF => ?_
       refine s3 F hF fun G hG => ?_
       exact ⟨(),⟨.cons rfl (.cons rfl (.cons rfl (.cons rfl .nil))),rfl⟩,hG⟩
      ·refine ⟨At0 (L + 2),ld0 bC,?_⟩
       refine s1 bC fun D hD => ?_
       refine s2 D hD fun F hF => ?_
       refine s3 F hF fun G hG => ?_
       exact ⟨(),⟨.cons rfl (.cons rfl (.cons rfl (.cons rfl .nil))),rfl⟩,hG⟩
     ·refine ⟨At0 (L + 2),ld0 bB,?_⟩
      refine Calls.mono (fen 5 bB) ?_
      rintro e C ⟨rfl,hbC⟩
      refine ⟨hbC,?_⟩
      have bC := bB.trans (hbC.mono bB.size)
      refine s1 bC fun D hD => ?_
      refine s2 D hD fun F hF => ?_
      refine s3 F hF fun G hG => ?_
      exact ⟨(),⟨.cons rfl (.cons rfl (.cons rfl (.cons rfl .nil))),rfl⟩,hG⟩
    ·refine ⟨At0 (L + 2),ld0 bA,?_⟩
     refine Calls.mono (fen 4 bA) ?_
     rintro e B ⟨rfl,hbB⟩
     refine ⟨hbB,?_⟩
     have bB := bA.trans (hbB.mono bA.size)
     refine Calls.mono (fen 5 bB) ?_
     rintro e C ⟨rfl,hbC⟩
     refine ⟨hbC,?_⟩
     have bC := bB.trans (hbC.mono bB.size)
     refine s1 bC fun D hD => ?_
     refine s2 D hD fun F hF => ?_
     refine s3 F hF fun G hG => ?_
     exact ⟨(),⟨.cons rfl (.cons rfl (.cons rfl (.cons rfl .nil))),rfl⟩,hG⟩
  ·refine ⟨At0 (L + 2),ld0 bY1,?_⟩
   refine And.intro ?_ ?_
   ·refine Calls.mono (fen 3 bY1) ?_
    rintro e A ⟨rfl,hbA⟩
    refine ⟨hbA,?_⟩
    have bA := bY1.trans (hbA.mono bY1.size)
    refine And.intro ?_ ?_
    ·refine Calls.mono (fen 4 bA) ?_
     rintro e B ⟨rfl,hbB⟩
     refine ⟨hbB,?_⟩
     have bB := bA.trans (hbB.mono bA.size)
     refine And.intro ?_ ?_
     ·refine Calls.mono (fen 5 bB) ?_
      rintro e C ⟨rfl,hbC⟩
      refine ⟨hbC,?_⟩
      have bC := bB.trans (hbC.mono bB.size)
      refine And.intro ?_ ?_
      ·refine s1 bC fun D hD => ?_
       refine And.intro ?_ ?_
       ·refine s2 D hD fun F hF => ?_
        refine ⟨At0 (L + 2),ld1 F hF.2,?_⟩
        refine s3 F hF fun G hG => ?_
        exact ⟨(),⟨.cons rfl (.cons rfl (.cons rfl (.cons rfl .nil))),rfl⟩,hG⟩
       ·refine ⟨At0 (L + 2),ld1 D hD.2,?_⟩
        refine s2 D hD fun F hF => ?_
        refine s3 F hF fun G hG => ?_
        exact ⟨(),⟨.cons rfl (.cons rfl (.cons rfl (.cons rfl .nil))),rfl⟩,hG⟩
      ·refine ⟨At0 (L + 2),ld0 bC,?_⟩
       refine s1 bC fun D hD => ?_
       refine s2 D hD fun F hF => ?_
       refine s3 F hF fun G hG => ?_
       exact ⟨(),⟨.cons rfl (.cons rfl (.cons rfl (.cons rfl .nil))),rfl⟩,hG⟩
     ·refine ⟨At0 (L + 2),ld0 bB,?_⟩
      refine Calls.mono (fen 5 bB) ?_
      rintro e C ⟨rfl,hbC⟩
      refine ⟨hbC,?_⟩
      have bC := bB.trans (hbC.mono bB.size)
      refine s1 bC fun D hD => ?_
      refine s2 D hD fun F hF => ?_
      refine s3 F hF fun G hG => ?_
      exact ⟨(),⟨.cons rfl (.cons rfl (.cons rfl (.cons rfl .nil))),rfl⟩,hG⟩
    ·refine ⟨At0 (L + 2),ld0 bA,?_⟩
     refine Calls.mono (fen 4 bA) ?_
     rintro e B ⟨rfl,hbB⟩
     refine ⟨hbB,?_⟩
     have bB := bA.trans (hbB.mono bA.size)
     refine Calls.mono (fen 5 bB) ?_
     rintro e C ⟨rfl,hbC⟩
     refine ⟨hbC,?_⟩
     have bC := bB.trans (hbC.mono bB.size)
     refine s1 bC fun D hD => ?_
     refine s2 D hD fun F hF => ?_
     refine s3 F hF fun G hG => ?_
     exact ⟨(),⟨.cons rfl (.cons rfl (.cons rfl (.cons rfl .nil))),rfl⟩,hG⟩
   ·refine ⟨At0 (L + 2),ld0 bY1,?_⟩
    refine Calls.mono (fen 3 bY1) ?_
    rintro e A ⟨rfl,hbA⟩
    refine ⟨hbA,?_⟩
    have bA := bY1.trans (hbA.mono bY1.size)
    refine Calls.mono (fen 4 bA) ?_
    rintro e B ⟨rfl,hbB⟩
    refine ⟨hbB,?_⟩
    have bB := bA.trans (hbB.mono bA.size)
    refine Calls.mono (fen 5 bB) ?_
    rintro e C ⟨rfl,hbC⟩
    refine ⟨hbC,?_⟩
    have bC := bB.trans (hbC.mono bB.size)
    refine s1 bC fun D hD => ?_
    refine s2 D hD fun F hF => ?_
    refine s3 F hF fun G hG => ?_
    exact ⟨(),⟨.cons rfl (.cons rfl (.cons rfl (.cons rfl .nil))),rfl⟩,hG⟩
  ·refine ⟨At0 (L + 2),ld0 bY1,?_⟩
   refine And.intro ?_ ?_
   ·refine Calls.mono (fen 3 bY1) ?_
    rintro e A ⟨rfl,hbA⟩
    refine ⟨hbA,?_⟩
    have bA := bY1.trans (hbA.mono bY1.size)
    refine And.intro ?_ ?_
    ·refine Calls.mono (fen 4 bA) ?_
     rintro e B ⟨rfl,hbB⟩
     refine ⟨hbB,?_⟩
     have bB := bA.trans (hbB.mono bA.size)
     refine And.intro ?_ ?_
     ·refine Calls.mono (fen 5 bB) ?_
      rintro e C ⟨rfl,hbC⟩
      refine ⟨hbC,?_⟩
      have bC := bB.trans (hbC.mono bB.size)
      refine And.intro ?_ ?_
      ·refine s1 bC fun D hD => ?_
       refine ⟨At0 (L + 2),ld1 D hD.2,?_⟩
       refine s2 D hD fun F hF => ?_
       refine s3 F hF fun G hG => ?_
       exact ⟨(),⟨.cons rfl (.cons rfl (.cons rfl (.cons rfl .nil))),rfl⟩,hG⟩
      ·refine ⟨At0 (L + 2),ld0 bC,?_⟩
       refine s1 bC fun D hD => ?_
       refine s2 D hD fun F hF => ?_
       refine s3 F hF fun G hG => ?_
       exact ⟨(),⟨.cons rfl (.cons rfl (.cons rfl (.cons rfl .nil))),rfl⟩,hG⟩
     ·refine ⟨At0 (L + 2),ld0 bB,?_⟩
      refine Calls.mono (fen 5 bB) ?_
      rintro e C ⟨rfl,hbC⟩
      refine ⟨hbC,?_⟩
      have bC := bB.trans (hbC.mono bB.size)
      refine s1 bC fun D hD => ?_
      refine s2 D hD fun F hF => ?_
      refine s3 F hF fun G hG => ?_
      exact ⟨(),⟨.cons rfl (.cons rfl (.cons rfl (.cons rfl .nil))),rfl⟩,hG⟩
    ·refine ⟨At0 (L + 2),ld0 bA,?_⟩
     refine Calls.mono (fen 4 bA) ?_
     rintro e B ⟨rfl,hbB⟩
     refine ⟨hbB,?_⟩
     have bB := bA.trans (hbB.mono bA.size)
     refine Calls.mono (fen 5 bB) ?_
     rintro e C ⟨rfl,hbC⟩
     refine ⟨hbC,?_⟩
     have bC := bB.trans (hbC.mono bB.size)
     refine s1 bC fun D hD => ?_
     refine s2 D hD fun F hF => ?_
     refine s3 F hF fun G hG => ?_
     exact ⟨(),⟨.cons rfl (.cons rfl (.cons rfl (.cons rfl .nil))),rfl⟩,hG⟩
   ·refine ⟨At0 (L + 2),ld0 bY1,?_⟩
    refine Calls.mono (fen 3 bY1) ?_
    rintro e A ⟨rfl,hbA⟩
    refine ⟨hbA,?_⟩
    have bA := bY1.trans (hbA.mono bY1.size)
    refine Calls.mono (fen 4 bA) ?_
    rintro e B ⟨rfl,hbB⟩
    refine ⟨hbB,?_⟩
    have bB := bA.trans (hbB.mono bA.size)
    refine Calls.mono (fen 5 bB) ?_
    rintro e C ⟨rfl,hbC⟩
    refine ⟨hbC,?_⟩
    have bC := bB.trans (hbC.mono bB.size)
    refine s1 bC fun D hD => ?_
    refine s2 D hD fun F hF => ?_
    refine s3 F hF fun G hG => ?_
    exact ⟨(),⟨.cons rfl (.cons rfl (.cons rfl (.cons rfl .nil))),rfl⟩,hG⟩
 clear fS fP sY hbwY fY fM f0 hwX fX sX hbX hbY
 clear X Y
 rintro _ Z ⟨hS,fP,fM,f0,fZ,sZ,hbZ⟩
 refine ⟨Nat,fun R => ⟨[(1,At0 b),(2,At0 L),(4,At0 (L + 1)),(5,At0 (L + 3)),(6,At0 R)],[]⟩,fun R Y => Y.heap[R]? = some (.cells rulesL.toArray 108 (0,0)) ∧ Below Z.heap.size Z Y,?_,?_⟩
 ·refine Calls.mono rules_c ?_
  rintro e Y ⟨rfl,hbY⟩
  refine store_new (X := Y) (v := .agg rulesL.toArray) (ttOk.get 108 _ rfl) rfl rfl rfl fun V hbV fV sV => ?_
  exact ⟨Y.heap.size,⟨.cons rfl (.cons rfl (.cons rfl (.cons rfl (.cons rfl .nil)))),rfl⟩,fV,hbY.trans (hbV.mono hbY.size)⟩
 rintro R Y ⟨fR,hbY⟩
 have hbwY := hbZ.trans (hbY.mono hbZ.size)
 replace hS := hS.below hbY
 replace fP := block_below hbY fP
 replace fM := block_below hbY fM
 replace f0 := block_below hbY f0
 replace fZ := block_below hbY fZ
 refine ⟨Unit,fun _ => ⟨[(4,At0 (L + 1))],[]⟩,fun _ V => RelH V (L + 1) (keptM m.toNat x) ∧ Below w.heap.size w V,?_,?_⟩
 ·refine ⟨_,cells_at (cells_block fZ) (i := 0) rfl,?_⟩
  refine Calls.mono (pick_c (n := x.ev.length) (caps := #[At0 (L + 3),At0 R,At0 L]) (g := 60) (p := fun a d => hasM x.po a d && (accA x a && (accA x d && keepM m.toNat x (fencedM x 3) (fencedM x 4) (fencedM x 5) a d))) (by omega) (by kernel_rfl) fun a d U ha hd hb => keeps_c hk (hS.below hb) (block_below hb fP) (block_below hb fR) (block_below hb fM) ha hd) ?_
  rintro e V ⟨rfl,hbV⟩
  replace f0 := block_below hbV f0
  refine store_box (v := .agg (relC (keptM m.toNat x)).toArray) (ttOk.get 27 _ rfl) f0 (relC_len _) (relC_len _) (relC_one _) ?_
  exact ⟨(),⟨.cons rfl .nil,rfl⟩,setRow_new f0,below_setRow (hbwY.trans (hbV.mono hbwY.size)) (by omega) _⟩
 rintro _ V ⟨f0,hbV⟩
 exact ⟨relC (keptM m.toNat x),relC_len _,cells_block f0,rfl,hbV⟩
end
end Go.Proofs.YtkpcgpmimejimaaGreatDoor
namespace Go.Proofs.YtkpcgpmimejimaaGreatDoor
open Go.Vc Go.RowKit Go.Sei
section
variable {b c : Nat} {x : ExD} {q : Option Addr} {w : World}
theorem known_c {m : UInt8} : Calls Tryz.prog 27 #[u8 m] w fun e w' => e = .returned (.bool (knownM m.toNat)) ∧ w = w' := by
 refine calls_of_E (S := sg 9) (sgOk _) (args := [u8 m]) Tryz.func27 rfl rfl (Nat.le_of_ble_eq_true rfl) rfl ?_
 refine And.intro (fun h => ?_) (fun h => ?_)
 ·have h : (1 : Int) ≤ (m.toNat : Int) := of_decide_eq_true h
  refine ⟨rb ?_,rfl⟩
  unfold knownM
  rw [decide_eq_true (by omega : 1 ≤ m.toNat),Bool.true_and]
  exact decide_eq_decide.2 (by show (m.toNat : Int) ≤ 6 ↔ _; omega)
 ·have h : ¬ (1 : Int) ≤ (m.toNat : Int) := of_decide_eq_false h
  refine ⟨rb ?_,rfl⟩
  unfold knownM
  rw [decide_eq_false (by omega : ¬ 1 ≤ m.toNat)]; rfl
theorem ext_wrd {r : RelD} (hn : r.n = x.ev.length) (h48 : x.ev.length ≤ 48) : WrdR (extM x r).to := by
 unfold extM
 exact pick_wrd (by omega)
theorem sl3_rel {X : World} {g : Nat} {a b c : RelD} (h : X.heap[g]? = some (.cells (relC a ++ (relC b ++ relC c)).toArray 27 (0,0))) : SlR relE X (some ⟨g,0,none⟩) [a,b,c] :=
 SlR.of_cells (hlt h) (by
  have : [a,b,c].flatMap relE.enc = relC a ++ (relC b ++ relC c) := by
   rw [List.flatMap_cons,List.flatMap_cons,List.flatMap_cons,List.flatMap_nil,List.append_nil]; rfl
  rw [this]
  exact cells_block h)
theorem broken_c {m : UInt8} (hk : knownM m.toNat = true) (fx : ExH w b x q c) (hv : ExV w x q) (hrf : x.rf.n = x.ev.length) (hT : Tz64M w) : Calls Tryz.prog 28 #[u8 m,At0 b] w fun e w' => e = .returned (u8 (UInt8.ofNat (brokenM m.toNat x))) ∧ Below w.heap.size w w' := by
 refine calls_of_M (S := sg 80) (sgOk _) (args := [u8 m,At0 b]) (.c .p (.c .p (.c .p (.c .p (.c .p (.c .p (.c .p (.c .p (.c .p (.c .p .p)))))))))) Tryz.func28 rfl rfl (Nat.le_of_ble_eq_true rfl) rfl ?_
 obtain ⟨L,hL⟩ : ∃ L,L = w.heap.size := ⟨_,rfl⟩
 have hn := hv.n
 obtain ⟨fw,frw⟩ := fr_wrd hv hT
 have hba : ∀ (A : World) (o : Obj),Below A.heap.size A (A.alloc o) := fun A o => (Below.refl _ _).alloc (Nat.le_refl _) _
 refine ⟨Unit,fun _ => ⟨[(0,u8 m),(3,At0 L)],[]⟩,fun _ X => X.heap[L]? = some (.cells #[At0 b] 75 (0,0)) ∧ Below w.heap.size w X,⟨(),⟨.cons rfl (.cons (by rw [hL]; rfl) .nil),rfl⟩,by rw [hL]; exact hnew w _,hba w _⟩,?_⟩
 rintro _ X ⟨fB,hbX⟩
 refine ⟨Nat,fun F => ⟨[(0,u8 m),(3,At0 L),(5,At0 F)],[]⟩,fun F Y => RelH Y F (frM x) ∧ Y.heap[L]? = some (.cells #[At0 b] 75 (0,0)) ∧ Below w.heap.size w Y,?_,?_⟩
 ·refine ⟨_,cells_at (cells_block fB) (i := 0) rfl,?_⟩
  refine Calls.mono (fr_c (block_below hbX fx) (hv.below hbX) (hT.below hbX)) ?_
  rintro e Y ⟨rfl,hbY⟩
  refine store_new (X := Y) (v := .agg (relC (frM x)).toArray) (ttOk.get 27 _ rfl) (relC_len _) (by kernel_rfl) (relC_one _) fun V hbV fV sV => ?_
  have b1 := hbY.trans (hbV.mono hbY.size)
  exact ⟨Y.heap.size,⟨.cons rfl (.cons rfl (.cons rfl .nil)),rfl⟩,fV,block_below b1 fB,hbX.trans (b1.mono hbX.size)⟩
 clear fB hbX
 clear X
 rintro F X ⟨fF,fB,hbX⟩
 refine ⟨Nat,fun G => ⟨[(0,u8 m),(3,At0 L),(5,At0 F),(6,At0 G)],[]⟩,fun G Y => RelH Y G (localM x) ∧ RelH Y F (frM x) ∧ Y.heap[L]? = some (.cells #[At0 b] 75 (0,0)) ∧ Below w.heap.size w Y,?_,?_⟩
 ·refine ⟨_,cells_at (cells_block fB) (i := 0) rfl,?_⟩
  have fX := block_below hbX fx
  have hvX := hv.below hbX
  refine ⟨_,cells_at (cells_block fX) (i := 0) rfl,?_⟩
  refine Calls.mono (pick_c (n := x.ev.length) (caps := #[At0 L]) (g := 54) (p := fun a d => hasM x.po a d && sameM x a d) (by omega) (by kernel_rfl) fun a d Z ha hd hb => broken1_c (block_below hb fB) (block_below hb fX) (hvX.below hb) ha hd) ?_
  rintro e Y ⟨rfl,hbY⟩
  refine store_new (X := Y) (v := .agg (relC (localM x)).toArray) (ttOk.get 27 _ rfl) (relC_len _) (by kernel_rfl) (relC_one _) fun V hbV fV sV => ?_
  have b1 := hbY.trans (hbV.mono hbY.size)
  exact ⟨Y.heap.size,⟨.cons rfl (.cons rfl (.cons rfl (.cons rfl .nil))),rfl⟩,fV,block_below b1 fF,block_below b1 fB,hbX.trans (b1.mono hbX.size)⟩
 clear fF fB hbX
 clear X
 rintro G X ⟨fG,fF,fB,hbX⟩
 have lw : WrdR (localM x).to := pick_wrd (by omega)
 have hbr : brokenM m.toNat x = if acyR (unionL (localM x) [x.rf,x.co,frM x]) = true then (if emptyR (bothR x.rm (thenR (frM x) x.co).1).1 = true then (if m.toNat = 1 then 0 else if acyR (unionL (keptM m.toNat x) [if m.toNat = 2 then x.rf else extM x x.rf,x.co,frM x]) = true then 0 else 3) else 2) else 1 := rfl
 refine ⟨Unit,fun _ => ⟨[(0,u8 m),(3,At0 L),(5,At0 F)],[]⟩,fun _ Y => acyR (unionL (localM x) [x.rf,x.co,frM x]) = true ∧ RelH Y F (frM x) ∧ Y.heap[L]? = some (.cells #[At0 b] 75 (0,0)) ∧ Below w.heap.size w Y,?_,?_⟩
 ·have dX : Below X.heap.size X X.drew := (Below.refl _ _).drew
  have fX := hdr (block_below hbX fx)
  refine DrawE.ord [] [0,1,2,3,4,5,6,7,8,9,10,11,12,13] (by kernel_rfl) ?_
  refine ⟨relC (localM x),relC_len _,cells_block (hdr fG),hlt (hdr fG),?_⟩
  refine ⟨_,cells_at (cells_block (hdr fB)) (i := 0) rfl,?_⟩
  refine ⟨relC x.rf,relC_len _,rel_cells2 fX (i := 1) (by decide) rfl,hlt fX,?_⟩
  refine ⟨_,cells_at (cells_block (hdr fB)) (i := 0) rfl,?_⟩
  refine ⟨relC x.co,relC_len _,rel_cells2 fX (i := 2) (by decide) rfl,hlt fX,?_⟩
  refine ⟨relC (frM x),relC_len _,cells_block (hdr fF),hlt (hdr fF),?_⟩
  refine ⟨⟨by decide,by decide,rfl⟩,relC x.rf ++ (relC x.co ++ relC (frM x)),by kernel_rfl,?_⟩
  refine ⟨hba _ _,?_⟩
  have b1 := dX.alloc (Nat.le_refl _) (.cells (relC x.rf ++ (relC x.co ++ relC (frM x))).toArray 27)
  have hl := sl3_rel (hnew X.drew (.cells (relC x.rf ++ (relC x.co ++ relC (frM x))).toArray 27))
  have hw3 : ∀ o ∈ [x.rf,x.co,frM x],WrdR o.to := by
   simp only [List.mem_cons,List.not_mem_nil,or_false,forall_eq_or_imp,forall_eq]
   exact ⟨hv.rf,hv.co,frw⟩
  refine Calls.mono (union_c (l := [x.rf,x.co,frM x]) lw hl hw3 (Nat.le_of_ble_eq_true rfl)) ?_
  rintro e Y ⟨rfl,hbY⟩
  refine ⟨hbY,?_⟩
  have b2 := b1.trans (hbY.mono b1.size)
  refine Calls.mono (Acyclic_c (unionL_wrd lw hw3) (hT.below (hbX.trans (b2.mono hbX.size)))) ?_
  rintro e Z ⟨rfl,hbZ⟩
  refine ⟨hbZ,?_⟩
  have b3 := b2.trans (hbZ.mono b2.size)
  have b4 := hbX.trans (b3.mono hbX.size)
  refine And.intro (fun h => ?_) (fun h => ?_)
  ·have h : acyR (unionL (localM x) [x.rf,x.co,frM x]) = false := by
    have h : (!acyR (unionL (localM x) [x.rf,x.co,frM x])) = true := h
    simpa using h
   rw [h,if_neg (by decide)] at hbr
   rw [hbr]
   exact ⟨rfl,b4⟩
  ·have h : acyR (unionL (localM x) [x.rf,x.co,frM x]) = true := by
    have h : (!acyR (unionL (localM x) [x.rf,x.co,frM x])) = false := h
    simpa using h
   exact ⟨(),⟨.cons rfl (.cons rfl (.cons rfl .nil)),rfl⟩,h,block_below b3 fF,block_below b3 fB,b4⟩
 clear fG fF fB hbX
 clear X
 rintro _ X ⟨h1,fF,fB,hbX⟩
 rw [if_pos h1] at hbr
 clear h1 lw G
 refine ⟨Nat,fun G => ⟨[(0,u8 m),(3,At0 L),(5,At0 F),(7,At0 G)],[]⟩,fun G Y => RelH Y G (thenR (frM x) x.co).1 ∧ RelH Y F (frM x) ∧ Y.heap[L]? = some (.cells #[At0 b] 75 (0,0)) ∧ Below w.heap.size w Y,?_,?_⟩
 ·have dX : Below X.heap.size X X.drew := (Below.refl _ _).drew
  have fX := hdr (block_below hbX fx)
  have put : ∀ (W : World) (b3 : Nat),Below X.heap.size X W → RelH W b3 zeroR → X.heap.size ≤ b3 → ∀ {K : World → Prop},(∀ Y,(RelH Y b3 (thenR (frM x) x.co).1 ∧ RelH Y F (frM x) ∧ Y.heap[L]? = some (.cells #[At0 b] 75 (0,0)) ∧ Below w.heap.size w Y) → K Y) →
    SatR ((storeVar 27 ⟨b3,0,none⟩ (.agg (relC (thenR (frM x) x.co).1).toArray)).run Tryz.prog W) fun _ w' => K w' := by
   intro W b3 hW f3 g3 K k
   refine store_box (v := .agg (relC (thenR (frM x) x.co).1).toArray) (ttOk.get 27 _ rfl) f3 (relC_len _) (relC_len _) (relC_one _) ?_
   have hF2 := hlt fF
   have hL2 := hlt fB
   exact k _ ⟨setRow_new f3,(setRow_old (by omega)).trans (block_below hW fF),(setRow_old (by omega)).trans (block_below hW fB),below_setRow (hbX.trans (hW.mono hbX.size)) (by have := hbX.size; omega) _⟩
  refine DrawE.treeQ [10] (.op 0 (.op 1 (.op 2 (.op 3 (.op 4 (.alt (.op 9 (.op 5 (.op 6 (.op 7 (.op 8 (.op 10 (.op 11 .nil))))))) (.op 5 (.op 6 (.op 7 (.op 8 (.op 9 (.op 10 (.op 11 .nil))))))))))))) (by kernel_rfl) ?_
  refine ⟨relC (frM x),relC_len _,cells_block (hdr fF),hlt (hdr fF),?_⟩
  refine ⟨_,cells_at (cells_block (hdr fB)) (i := 0) rfl,?_⟩
  refine ⟨relC x.co,relC_len _,rel_cells2 fX (i := 2) (by decide) rfl,hlt fX,?_⟩
  refine And.intro ?_ ?_
  ·refine ⟨hba _ _,?_⟩
   have b1 := dX.alloc (Nat.le_refl _) (.cells (relC zeroR).toArray 27)
   refine Calls.mono (Then_c frw hv.co (hT.below (hbX.trans (b1.mono hbX.size)))) ?_
   rintro e Y ⟨rfl,hbY⟩
   refine ⟨hbY,?_⟩
   refine put Y X.heap.size (b1.trans (hbY.mono b1.size)) (block_below hbY (hnew X.drew _)) (Nat.le_refl _) ?_
   exact fun Y hY => ⟨X.heap.size,⟨.cons rfl (.cons rfl (.cons rfl (.cons rfl .nil))),rfl⟩,hY⟩
  ·refine Calls.mono (Then_c frw hv.co (hT.below (hbX.trans (dX.mono hbX.size)))) ?_
   rintro e Y ⟨rfl,hbY⟩
   refine ⟨hbY,?_⟩
   have b1 := dX.trans (hbY.mono dX.size)
   refine ⟨hba _ _,?_⟩
   refine put _ Y.heap.size (b1.alloc b1.size _) (hnew Y _) b1.size ?_
   exact fun V hV => ⟨Y.heap.size,⟨.cons rfl (.cons rfl (.cons rfl (.cons rfl .nil))),rfl⟩,hV⟩
 clear fF fB hbX
 clear X
 rintro G X ⟨fG,fF,fB,hbX⟩
 have tw := then_wrd (a := frM x) (b := x.co) frw hv.co
 refine ⟨Nat,fun H => ⟨[(0,u8 m),(3,At0 L),(5,At0 F),(9,At0 H)],[]⟩,fun H Y => RelH Y H (bothR x.rm (thenR (frM x) x.co).1).1 ∧ RelH Y F (frM x) ∧ Y.heap[L]? = some (.cells #[At0 b] 75 (0,0)) ∧ Below w.heap.size w Y,?_,?_⟩
 ·have dX : Below X.heap.size X X.drew := (Below.refl _ _).drew
  have fX := hdr (block_below hbX fx)
  obtain ⟨tb,htb⟩ : ∃ tb,tb = (thenR (frM x) x.co).1 := ⟨_,rfl⟩
  rw [← htb] at fG tw ⊢
  have put : ∀ (W : World) (b3 : Nat),Below X.heap.size X W → RelH W b3 zeroR → X.heap.size ≤ b3 → ∀ {K : World → Prop},(∀ Y,(RelH Y b3 (bothR x.rm tb).1 ∧ RelH Y F (frM x) ∧ Y.heap[L]? = some (.cells #[At0 b] 75 (0,0)) ∧ Below w.heap.size w Y) → K Y) →
    SatR ((storeVar 27 ⟨b3,0,none⟩ (.agg (relC (bothR x.rm tb).1).toArray)).run Tryz.prog W) fun _ w' => K w' := by
   intro W b3 hW f3 g3 K k
   refine store_box (v := .agg (relC (bothR x.rm tb).1).toArray) (ttOk.get 27 _ rfl) f3 (relC_len _) (relC_len _) (relC_one _) ?_
   have hF2 := hlt fF
   have hL2 := hlt fB
   exact k _ ⟨setRow_new f3,(setRow_old (by omega)).trans (block_below hW fF),(setRow_old (by omega)).trans (block_below hW fB),below_setRow (hbX.trans (hW.mono hbX.size)) (by have := hbX.size; omega) _⟩
  refine DrawE.treeQ [10] (.op 0 (.op 1 (.op 2 (.op 3 (.op 4 (.alt (.op 9 (.op 5 (.op 6 (.op 7 (.op 8 (.op 10 (.op 11 .nil))))))) (.op 5 (.op 6 (.op 7 (.op 8 (.op 9 (.op 10 (.op 11 .nil))))))))))))) (by kernel_rfl) ?_
  refine ⟨_,cells_at (cells_block (hdr fB)) (i := 0) rfl,?_⟩
  refine ⟨relC x.rm,relC_len _,rel_cells2 fX (i := 5) (by decide) rfl,hlt fX,?_⟩
  refine ⟨relC tb,relC_len _,cells_block (hdr fG),hlt (hdr fG),?_⟩
  refine And.intro ?_ ?_
  ·refine ⟨hba _ _,?_⟩
   have b1 := dX.alloc (Nat.le_refl _) (.cells (relC zeroR).toArray 27)
   refine Calls.mono (Both_c hv.rm tw) ?_
   rintro e Y ⟨rfl,hbY⟩
   refine ⟨hbY,?_⟩
   refine put Y X.heap.size (b1.trans (hbY.mono b1.size)) (block_below hbY (hnew X.drew _)) (Nat.le_refl _) ?_
   exact fun Y hY => ⟨X.heap.size,⟨.cons rfl (.cons rfl (.cons rfl (.cons rfl .nil))),rfl⟩,hY⟩
  ·refine Calls.mono (Both_c hv.rm tw) ?_
   rintro e Y ⟨rfl,hbY⟩
   refine ⟨hbY,?_⟩
   have b1 := dX.trans (hbY.mono dX.size)
   refine ⟨hba _ _,?_⟩
   refine put _ Y.heap.size (b1.alloc b1.size _) (hnew Y _) b1.size ?_
   exact fun V hV => ⟨Y.heap.size,⟨.cons rfl (.cons rfl (.cons rfl (.cons rfl .nil))),rfl⟩,hV⟩
 clear fG fF fB hbX
 clear X G
 rintro H X ⟨fH,fF,fB,hbX⟩
 refine ⟨Unit,fun _ => ⟨[(0,u8 m),(3,At0 L),(5,At0 F)],[]⟩,fun _ Y => emptyR (bothR x.rm (thenR (frM x) x.co).1).1 = true ∧ RelH Y F (frM x) ∧ Y.heap[L]? = some (.cells #[At0 b] 75 (0,0)) ∧ Below w.heap.size w Y,?_,?_⟩
 ·refine ⟨relC (bothR x.rm (thenR (frM x) x.co).1).1,relC_len _,cells_block fH,hlt fH,?_⟩
  refine Calls.mono (Empty_c (both_wrd hv.rm)) ?_
  rintro e Y ⟨rfl,hbY⟩
  have b4 := hbX.trans (hbY.mono hbX.size)
  refine And.intro (fun h => ?_) (fun h => ?_)
  ·have h : emptyR (bothR x.rm (thenR (frM x) x.co).1).1 = false := by
    have h : (!emptyR (bothR x.rm (thenR (frM x) x.co).1).1) = true := h
    simpa using h
   rw [h,if_neg (by decide)] at hbr
   rw [hbr]
   exact ⟨rfl,b4⟩
  ·have h : emptyR (bothR x.rm (thenR (frM x) x.co).1).1 = true := by
    have h : (!emptyR (bothR x.rm (thenR (frM x) x.co).1).1) = false := h
    simpa using h
   exact ⟨(),⟨.cons rfl (.cons rfl (.cons rfl .nil)),rfl⟩,h,block_below hbY fF,block_below hbY fB,b4⟩
 clear fH fF fB hbX tw
 clear X H
 rintro _ X ⟨h1,fF,fB,hbX⟩
 rw [if_pos h1] at hbr
 clear h1
 refine ⟨Unit,fun _ => ⟨[(0,u8 m),(3,At0 L),(5,At0 F)],[]⟩,fun _ Y => m.toNat ≠ 1 ∧ X = Y,?_,?_⟩
 ·refine And.intro (fun h => ?_) (fun h => ?_)
  ·have h : (m.toNat : Int) = 1 := of_decide_eq_true h
   rw [if_pos (by omega)] at hbr
   rw [hbr]
   exact ⟨rfl,hbX⟩
  ·have h : ¬ (m.toNat : Int) = 1 := of_decide_eq_false h
   exact ⟨(),⟨.cons rfl (.cons rfl (.cons rfl .nil)),rfl⟩,by omega,rfl⟩
 rintro _ _ ⟨h1,rfl⟩
 rw [if_neg h1] at hbr
 clear h1
 refine ⟨Nat,fun G => ⟨[(0,u8 m),(3,At0 L),(5,At0 F),(11,At0 G)],[]⟩,fun G Y => G ≠ F ∧ G ≠ L ∧ w.heap.size ≤ G ∧ RelH Y G x.rf ∧ RelH Y F (frM x) ∧ Y.heap[L]? = some (.cells #[At0 b] 75 (0,0)) ∧ Below w.heap.size w Y,?_,?_⟩
 ·have fX := block_below hbX fx
  refine ⟨_,cells_at (cells_block fB) (i := 0) rfl,?_⟩
  refine ⟨relC x.rf,relC_len _,rel_cells2 fX (i := 1) (by decide) rfl,hlt fX,?_⟩
  refine store_new (X := X) (v := .agg (relC x.rf).toArray) (ttOk.get 27 _ rfl) (relC_len _) (by kernel_rfl) (relC_one _) fun V hbV fV sV => ?_
  have hF2 := hlt fF
  have hL2 := hlt fB
  exact ⟨X.heap.size,⟨.cons rfl (.cons rfl (.cons rfl (.cons rfl .nil))),rfl⟩,by omega,by omega,hbX.size,fV,block_below hbV fF,block_below hbV fB,hbX.trans (hbV.mono hbX.size)⟩
 clear fF fB hbX
 clear X
 rintro G X ⟨hGF,hGL,hGw,fG,fF,fB,hbX⟩
 obtain ⟨rfx,hrfx⟩ : ∃ rfx,rfx = if m.toNat = 2 then x.rf else extM x x.rf := ⟨_,rfl⟩
 have rfw : WrdR rfx.to := by
  rw [hrfx]
  split
  ·exact hv.rf
  ·exact ext_wrd hrf (by omega)
 rw [← hrfx] at hbr
 refine ⟨Unit,fun _ => ⟨[(0,u8 m),(3,At0 L),(5,At0 F),(11,At0 G)],[]⟩,fun _ Y => RelH Y G rfx ∧ RelH Y F (frM x) ∧ Y.heap[L]? = some (.cells #[At0 b] 75 (0,0)) ∧ Below w.heap.size w Y,?_,?_⟩
 ·have fX := block_below hbX fx
  have hvX := hv.below hbX
  refine And.intro (fun h => ?_) (fun h => ?_)
  ·have h : ¬ m.toNat = 2 := by
    have h : (!decide ((m.toNat : Int) = 2)) = true := h
    have h : ¬ (m.toNat : Int) = 2 := by simpa using h
    omega
   rw [if_neg h] at hrfx
   refine ⟨_,cells_at (cells_block fB) (i := 0) rfl,?_⟩
   refine ⟨relC x.rf,relC_len _,cells_block fG,hlt fG,?_⟩
   refine Calls.mono (ext_c fX hvX hv.rf hrf) ?_
   rintro e Y ⟨rfl,hbY⟩
   rw [← hrfx]
   refine store_box (v := .agg (relC rfx).toArray) (ttOk.get 27 _ rfl) (block_below hbY fG) (relC_len _) (relC_len _) (relC_one _) ?_
   exact ⟨(),⟨.cons rfl (.cons rfl (.cons rfl (.cons rfl .nil))),rfl⟩,setRow_new (block_below hbY fG),(setRow_old (by omega)).trans (block_below hbY fF),(setRow_old (by omega)).trans (block_below hbY fB),below_setRow (hbX.trans (hbY.mono hbX.size)) hGw _⟩
  ·have h : m.toNat = 2 := by
    have h : (!decide ((m.toNat : Int) = 2)) = false := h
    have h : (m.toNat : Int) = 2 := by simpa using h
    omega
   rw [if_pos h] at hrfx
   rw [hrfx]
   exact ⟨(),⟨.cons rfl (.cons rfl (.cons rfl (.cons rfl .nil))),rfl⟩,fG,fF,fB,hbX⟩
 clear fG fF fB hbX hrfx
 clear X
 rintro _ X ⟨fG,fF,fB,hbX⟩
 have kw : WrdR (keptM m.toNat x).to := pick_wrd (by omega)
 have dX : Below X.heap.size X X.drew := (Below.refl _ _).drew
 have hbD := hbX.trans (dX.mono hbX.size)
 have hw3 : ∀ o ∈ [rfx,x.co,frM x],WrdR o.to := by
  simp only [List.mem_cons,List.not_mem_nil,or_false,forall_eq_or_imp,forall_eq]
  exact ⟨rfw,hv.co,frw⟩
 have fD := hdr (block_below hbX fx)
 have hk0 : ∀ {Y : World},Below X.heap.size X Y → Calls Tryz.prog 31 #[u8 m,At0 b] Y fun e w' => e = .returned (.agg (relC (keptM m.toNat x)).toArray) ∧ Below Y.heap.size Y w' := fun {Y} hY =>
  have h2 := hbX.trans (hY.mono hbX.size)
  kept_c hk (block_below h2 fx) (hv.below h2) (hT.below h2)
 refine DrawE.treeQ [] (.op 0 (.op 1 (.op 3 (.op 4 (.op 5 (.op 6 (.op 7 (.op 8 (.alt (.op 9 (.op 2 (.op 10 (.op 11 (.op 12 .nil))))) (.op 2 (.op 9 (.op 10 (.op 11 (.op 12 .nil)))))))))))))) (by kernel_rfl) ?_
 refine ⟨_,cells_at (cells_block (hdr fB)) (i := 0) rfl,?_⟩
 refine ⟨relC rfx,relC_len _,cells_block (hdr fG),hlt (hdr fG),?_⟩
 refine ⟨_,cells_at (cells_block (hdr fB)) (i := 0) rfl,?_⟩
 refine ⟨relC x.co,relC_len _,rel_cells2 fD (i := 2) (by decide) rfl,hlt fD,?_⟩
 refine ⟨relC (frM x),relC_len _,cells_block (hdr fF),hlt (hdr fF),?_⟩
 refine And.intro ?_ ?_
 ·refine ⟨⟨by decide,by decide,rfl⟩,relC rfx ++ (relC x.co ++ relC (frM x)),by kernel_rfl,?_⟩
  refine ⟨hba _ _,?_⟩
  have b1 := dX.alloc (Nat.le_refl _) (.cells (relC rfx ++ (relC x.co ++ relC (frM x))).toArray 27)
  have hl := sl3_rel (hnew X.drew (.cells (relC rfx ++ (relC x.co ++ relC (frM x))).toArray 27))
  refine Calls.mono (hk0 b1) ?_
  rintro e Y ⟨rfl,hbY⟩
  refine ⟨hbY,?_⟩
  have b2 := b1.trans (hbY.mono b1.size)
  refine Calls.mono (union_c (l := [rfx,x.co,frM x]) kw (hl.below hbY) hw3 (Nat.le_of_ble_eq_true rfl)) ?_
  rintro e V ⟨rfl,hbV⟩
  refine ⟨hbV,?_⟩
  have b3 := b2.trans (hbV.mono b2.size)
  refine Calls.mono (Acyclic_c (unionL_wrd kw hw3) (hT.below (hbX.trans (b3.mono hbX.size)))) ?_
  rintro e Z ⟨rfl,hbZ⟩
  refine ⟨hbZ,?_⟩
  have b5 := hbX.trans ((b3.trans (hbZ.mono b3.size)).mono hbX.size)
  refine And.intro (fun h => ?_) (fun h => ?_)
  ·have h : acyR (unionL (keptM m.toNat x) [rfx,x.co,frM x]) = false := by
    have h : (!acyR (unionL (keptM m.toNat x) [rfx,x.co,frM x])) = true := h
    simpa using h
   rw [h,if_neg (by decide)] at hbr
   rw [hbr]
   exact ⟨rfl,b5⟩
  ·have h : acyR (unionL (keptM m.toNat x) [rfx,x.co,frM x]) = true := by
    have h : (!acyR (unionL (keptM m.toNat x) [rfx,x.co,frM x])) = false := h
    simpa using h
   rw [h,if_pos rfl] at hbr
   rw [hbr]
   exact ⟨rfl,b5⟩
 ·refine Calls.mono (hk0 dX) ?_
  rintro e Y ⟨rfl,hbY⟩
  refine ⟨hbY,?_⟩
  have b1 := dX.trans (hbY.mono dX.size)
  refine ⟨⟨by decide,by decide,rfl⟩,relC rfx ++ (relC x.co ++ relC (frM x)),by kernel_rfl,?_⟩
  refine ⟨hba _ _,?_⟩
  have b2 := b1.alloc b1.size (.cells (relC rfx ++ (relC x.co ++ relC (frM x))).toArray 27)
  have hl := sl3_rel (hnew Y (.cells (relC rfx ++ (relC x.co ++ relC (frM x))).toArray 27))
  refine Calls.mono (union_c (l := [rfx,x.co,frM x]) kw hl hw3 (Nat.le_of_ble_eq_true rfl)) ?_
  rintro e V ⟨rfl,hbV⟩
  refine ⟨hbV,?_⟩
  have b3 := b2.trans (hbV.mono b2.size)
  refine Calls.mono (Acyclic_c (unionL_wrd kw hw3) (hT.below (hbX.trans (b3.mono hbX.size)))) ?_
  rintro e Z ⟨rfl,hbZ⟩
  refine ⟨hbZ,?_⟩
  have b5 := hbX.trans ((b3.trans (hbZ.mono b3.size)).mono hbX.size)
  refine And.intro (fun h => ?_) (fun h => ?_)
  ·have h : acyR (unionL (keptM m.toNat x) [rfx,x.co,frM x]) = false := by
    have h : (!acyR (unionL (keptM m.toNat x) [rfx,x.co,frM x])) = true := h
    simpa using h
   rw [h,if_neg (by decide)] at hbr
   rw [hbr]
   exact ⟨rfl,b5⟩
  ·have h : acyR (unionL (keptM m.toNat x) [rfx,x.co,frM x]) = true := by
    have h : (!acyR (unionL (keptM m.toNat x) [rfx,x.co,frM x])) = false := h
    simpa using h
   rw [h,if_pos rfl] at hbr
   rw [hbr]
   exact ⟨rfl,b5⟩
theorem rel_n_of (h : rightX x = true) : x.rf.n = x.ev.length := by
 unfold rightX relsRight at h
 simp only [List.all_cons,List.all_nil,Bool.and_true,Bool.and_eq_true,decide_eq_true_eq] at h
 obtain ⟨_,_,_,_,⟨_,h6,_⟩,_⟩ := h
 exact h6.1
theorem nest_le {A B C : Bool} {m : Nat} : (if A = true then (if B = true then (if m = 1 then 0 else if C = true then 0 else 3) else 2) else 1) ≤ 3 := by
 by_cases h : m = 1 <;> cases A <;> cases B <;> cases C <;> simp [h]
theorem brok_zero {m : Nat} {x : ExD} : decide ((((UInt8.ofNat (brokenM m x)).toNat : Nat) : Int) = 0) = decide (brokenM m x = 0) := by
 have h : brokenM m x ≤ 3 := by
  unfold brokenM
  exact nest_le
 refine decide_eq_decide.2 ?_
 rw [UInt8.toNat_ofNat']
 omega
theorem Holds_c {m : UInt8} (hv : ExV w x q) (hT : Tz64M w) : Calls Tryz.prog 7 #[u8 m,.agg (exC x q c).toArray] w fun e w' => e = .returned (.bool (holdsM m.toNat x)) ∧ Below w.heap.size w w' := by
 refine calls_of_M (S := sg 16) (sgOk _) (args := [u8 m,.agg (exC x q c).toArray]) (.c .p .p) Tryz.func7 rfl rfl (Nat.le_of_ble_eq_true rfl) rfl ?_
 obtain ⟨L,hL⟩ : ∃ L,L = w.heap.size := ⟨_,rfl⟩
 refine ⟨Unit,fun _ => ⟨[(0,u8 m),(3,At0 L)],[]⟩,fun _ X => ExH X L x q c ∧ Below w.heap.size w X,⟨(),⟨.cons rfl (.cons (by rw [hL]; rfl) .nil),rfl⟩,by rw [hL]; exact hnew w _,(Below.refl _ w).alloc (Nat.le_refl _) _⟩,?_⟩
 rintro _ X ⟨fX,hbX⟩
 refine Calls.mono known_c ?_
 rintro e _ ⟨rfl,rfl⟩
 refine And.intro (fun h1 => ?_) (fun h1 => ?_)
 ·have h1 : knownM m.toNat = true := h1
  refine ⟨exC x q c,exC_len _ _ _,cells_block fX,hlt fX,?_⟩
  refine Calls.mono (RightX_c (hv.below hbX) (hT.below hbX)) ?_
  rintro e Y ⟨rfl,hbY⟩
  have bY := hbX.trans (hbY.mono hbX.size)
  refine And.intro (fun h2 => ?_) (fun h2 => ?_)
  ·have h2 : rightX x = true := h2
   refine Calls.mono (broken_c h1 (block_below hbY fX) (hv.below bY) (rel_n_of h2) (hT.below bY)) ?_
   rintro e Z ⟨rfl,hbZ⟩
   refine ⟨rb ?_,bY.trans (hbZ.mono bY.size)⟩
   unfold holdsM
   rw [h1,h2]
   exact brok_zero
  ·have h2 : rightX x = false := h2
   exact ⟨rb (by unfold holdsM; rw [h2]; cases knownM m.toNat <;> rfl),bY⟩
 ·have h1 : knownM m.toNat = false := h1
  refine brF ?_
  exact ⟨rb (by unfold holdsM; rw [h1]; rfl),hbX⟩
theorem Broken_c {m : UInt8} (hv : ExV w x q) (hT : Tz64M w) : Calls Tryz.prog 53 #[u8 m,.agg (exC x q c).toArray] w fun e w' => e = .returned (u8 (UInt8.ofNat (brokM m.toNat x))) ∧ Below w.heap.size w w' := by
 refine calls_of_M (S := sg 15) (sgOk _) (args := [u8 m,.agg (exC x q c).toArray]) (.c .p .p) Tryz.func53 rfl rfl (Nat.le_of_ble_eq_true rfl) rfl ?_
 obtain ⟨L,hL⟩ : ∃ L,L = w.heap.size := ⟨_,rfl⟩
 refine ⟨Unit,fun _ => ⟨[(0,u8 m),(3,At0 L)],[]⟩,fun _ X => ExH X L x q c ∧ Below w.heap.size w X,⟨(),⟨.cons rfl (.cons (by rw [hL]; rfl) .nil),rfl⟩,by rw [hL]; exact hnew w _,(Below.refl _ w).alloc (Nat.le_refl _) _⟩,?_⟩
 rintro _ X ⟨fX,hbX⟩
 refine Calls.mono known_c ?_
 rintro e _ ⟨rfl,rfl⟩
 refine And.intro (fun h1 => ?_) (fun h1 => ?_)
 ·have h1 : knownM m.toNat = false := by
   have h1 : (!knownM m.toNat) = true := h1
   simpa using h1
  refine brT ?_
  have e0 : brokM m.toNat x = 0 := by unfold brokM; rw [if_neg fun h => by rw [h1] at h; cases h.1]
  rw [e0]
  exact ⟨rfl,hbX⟩
 ·have h1 : knownM m.toNat = true := by
   have h1 : (!knownM m.toNat) = false := h1
   simpa using h1
  refine ⟨exC x q c,exC_len _ _ _,cells_block fX,hlt fX,?_⟩
  refine Calls.mono (RightX_c (hv.below hbX) (hT.below hbX)) ?_
  rintro e Y ⟨rfl,hbY⟩
  have bY := hbX.trans (hbY.mono hbX.size)
  refine And.intro (fun h2 => ?_) (fun h2 => ?_)
  ·have h2 : rightX x = false := by
    have h2 : (!rightX x) = true := h2
    simpa using h2
   have e0 : brokM m.toNat x = 0 := by unfold brokM; rw [if_neg fun h => by rw [h2] at h; cases h.2]
   rw [e0]
   exact ⟨rfl,bY⟩
  ·have h2 : rightX x = true := by
    have h2 : (!rightX x) = false := h2
    simpa using h2
   have e0 : brokM m.toNat x = brokenM m.toNat x := if_pos ⟨h1,h2⟩
   rw [e0]
   refine Calls.mono (broken_c h1 (block_below hbY fX) (hv.below bY) (rel_n_of h2) (hT.below bY)) ?_
   rintro e Z ⟨rfl,hbZ⟩
   exact ⟨rfl,bY.trans (hbZ.mono bY.size)⟩
end
end Go.Proofs.YtkpcgpmimejimaaGreatDoor
namespace Go.Proofs.YtkpcgpmimejimaaGreatDoor
open Go.Vc Go.RowKit Go.Sei
section
variable {b c : Nat} {x : ExD} {q : Option Addr} {w : World}
theorem notB {p : Bool} (h : (!p) = true) : p = false := by simpa using h
theorem notF {p : Bool} (h : (!p) = false) : p = true := by simpa using h
theorem rel_ret {X : World} {L : Nat} {r r0 : RelD} (f0 : RelH X L r0) (hL : w.heap.size ≤ L) (hbX : Below w.heap.size w X) {K : World → Prop} (k : ∀ Y,RelH Y L r → Below w.heap.size w Y → K Y) :
  SatR ((storeVar 27 ⟨L,0,none⟩ (.agg (relC r).toArray)).run Tryz.prog X) fun _ w' => K w' :=
 store_box (v := .agg (relC r).toArray) (ttOk.get 27 _ rfl) f0 (relC_len _) (relC_len _) (relC_one _) (k _ (setRow_new f0) (below_setRow hbX hL _))
theorem KeptM_c {m : UInt8} (hv : ExV w x q) (hT : Tz64M w) : Calls Tryz.prog 9 #[u8 m,.agg (exC x q c).toArray] w fun e w' => e = .returned (.agg (relC (keptX m.toNat x)).toArray) ∧ Below w.heap.size w w' := by
 refine calls_of_M (S := sg 16) (sgOk _) (args := [u8 m,.agg (exC x q c).toArray]) (.c .p .p) Tryz.func9 rfl rfl (Nat.le_of_ble_eq_true rfl) rfl ?_
 obtain ⟨L,hL⟩ : ∃ L,L = w.heap.size := ⟨_,rfl⟩
 refine ⟨Unit,fun _ => ⟨[(0,u8 m),(3,At0 L),(4,At0 (L + 1))],[]⟩,fun _ X => ExH X L x q c ∧ RelH X (L + 1) zeroR ∧ Below w.heap.size w X,?_,?_⟩
 ·have s1 := World.size_alloc w (.cells (exC x q c).toArray 34)
  have h2 := hnew (w.alloc (.cells (exC x q c).toArray 34)) (.cells (relC zeroR).toArray 27)
  rw [s1] at h2
  have b1 : Below w.heap.size w (w.alloc (.cells (exC x q c).toArray 34)) := (Below.refl _ w).alloc (Nat.le_refl _) _
  exact ⟨(),⟨.cons rfl (.cons (by rw [hL]; rfl) (.cons (by rw [hL,← s1]; rfl) .nil)),rfl⟩,by rw [hL]; exact hold _ (hnew w _),by rw [hL]; exact h2,b1.alloc b1.size _⟩
 rintro _ X ⟨fX,f0,hbX⟩
 have zero : keptX m.toNat x = zeroR → ∀ {Y : World},Below X.heap.size X Y → SatR ((storeVar 27 ⟨L + 1,0,none⟩ (.agg (relC zeroR).toArray)).run Tryz.prog Y) fun _ w' => ∃ cells,cells.length = 49 ∧ Cells w' ⟨L + 1,0,none⟩ cells ∧ Ending.returned (.agg cells.toArray) = .returned (.agg (relC (keptX m.toNat x)).toArray) ∧ Below w.heap.size w w' := fun h0 {Y} hb => by
  rw [h0]
  exact rel_ret (block_below hb f0) (by omega) (hbX.trans (hb.mono hbX.size)) fun Z fZ bZ => ⟨relC zeroR,relC_len _,cells_block fZ,rfl,bZ⟩
 refine Calls.mono known_c ?_
 rintro e _ ⟨rfl,rfl⟩
 refine And.intro (fun h1 => ?_) (fun h1 => ?_)
 ·have h1 : knownM m.toNat = false := notB h1
  refine brT ?_
  refine ⟨relC zeroR,by kernel_rfl,?_⟩
  exact zero (if_neg fun h => by rw [h1] at h; cases h.1) (Below.refl _ _)
 ·have h1 : knownM m.toNat = true := notF h1
  refine ⟨exC x q c,exC_len _ _ _,cells_block fX,hlt fX,?_⟩
  refine Calls.mono (RightX_c (hv.below hbX) (hT.below hbX)) ?_
  rintro e Y ⟨rfl,hbY⟩
  have bY := hbX.trans (hbY.mono hbX.size)
  refine And.intro (fun h2 => ?_) (fun h2 => ?_)
  ·have h2 : rightX x = false := notB h2
   refine ⟨relC zeroR,by kernel_rfl,?_⟩
   exact zero (if_neg fun h => by rw [h2] at h; cases h.2) hbY
  ·have h2 : rightX x = true := notF h2
   have e0 : keptX m.toNat x = keptM m.toNat x := if_pos ⟨h1,h2⟩
   rw [e0]
   refine Calls.mono (kept_c h1 (block_below hbY fX) (hv.below bY) (hT.below bY)) ?_
   rintro e Z ⟨rfl,hbZ⟩
   exact rel_ret (block_below hbZ (block_below hbY f0)) (by omega) (bY.trans (hbZ.mono bY.size)) fun V fV bV => ⟨relC (keptM m.toNat x),relC_len _,cells_block fV,rfl,bV⟩
end
end Go.Proofs.YtkpcgpmimejimaaGreatDoor
namespace Go.Proofs.YtkpcgpmimejimaaGreatDoor
open Go.Vc Go.RowKit Go.Sei
section
variable {w : World}
theorem st_c {l v m : UInt8} : Calls Tryz.prog 24 #[u8 l,u8 v,u8 m] w fun e w' => e = .returned (.agg (insE.enc (stI l v m)).toArray) ∧ Below w.heap.size w w' := by
 refine calls_of_M (S := sg 12) (sgOk _) (args := [u8 l,u8 v,u8 m]) (.c .p .p) Tryz.func24 rfl rfl (Nat.le_of_ble_eq_true rfl) rfl ?_
 obtain ⟨L,hL⟩ : ∃ L,L = w.heap.size := ⟨_,rfl⟩
 refine ⟨Unit,fun _ => ⟨[(0,u8 l),(1,u8 v),(2,u8 m),(6,At0 L)],[]⟩,fun _ X => (∃ cs : Array Value,X.heap[L]? = some (.cells cs 69 (0,0)) ∧ cs.size = 10) ∧ Below w.heap.size w X,⟨(),⟨.cons rfl (.cons rfl (.cons rfl (.cons (by rw [hL]; rfl) .nil))),rfl⟩,⟨_,by rw [hL]; exact hnew w _,by kernel_rfl⟩,(Below.refl _ w).alloc (Nat.le_refl _) _⟩,?_⟩
 rintro _ X ⟨⟨cs,f0,hcs⟩,hbX⟩
 refine ⟨[.bool false,u8 v],by kernel_rfl,?_⟩
 refine ⟨insE.enc (stI l v m),by kernel_rfl,?_⟩
 refine store_box (v := .agg (insE.enc (stI l v m)).toArray) (ttOk.get 69 _ rfl) f0 rfl hcs rfl ?_
 exact ⟨insE.enc (stI l v m),rfl,cells_block (setRow_new f0),rfl,below_setRow hbX (by omega) _⟩
theorem ld_c {d l m : UInt8} : Calls Tryz.prog 25 #[u8 d,u8 l,u8 m] w fun e w' => e = .returned (.agg (insE.enc (ldI d l m)).toArray) ∧ Below w.heap.size w w' := by
 refine calls_of_M (S := sg 11) (sgOk _) (args := [u8 d,u8 l,u8 m]) (.c .p .p) Tryz.func25 rfl rfl (Nat.le_of_ble_eq_true rfl) rfl ?_
 obtain ⟨L,hL⟩ : ∃ L,L = w.heap.size := ⟨_,rfl⟩
 refine ⟨Unit,fun _ => ⟨[(0,u8 d),(1,u8 l),(2,u8 m),(6,At0 L)],[]⟩,fun _ X => (∃ cs : Array Value,X.heap[L]? = some (.cells cs 69 (0,0)) ∧ cs.size = 10) ∧ Below w.heap.size w X,⟨(),⟨.cons rfl (.cons rfl (.cons rfl (.cons (by rw [hL]; rfl) .nil))),rfl⟩,⟨_,by rw [hL]; exact hnew w _,by kernel_rfl⟩,(Below.refl _ w).alloc (Nat.le_refl _) _⟩,?_⟩
 rintro _ X ⟨⟨cs,f0,hcs⟩,hbX⟩
 refine ⟨insE.enc (ldI d l m),by kernel_rfl,?_⟩
 refine store_box (v := .agg (insE.enc (ldI d l m)).toArray) (ttOk.get 69 _ rfl) f0 rfl hcs rfl ?_
 exact ⟨insE.enc (ldI d l m),rfl,cells_block (setRow_new f0),rfl,below_setRow hbX (by omega) _⟩
theorem two_c {la lb : List InsD} {pa pb : Option Addr} {ca cb : Nat} (ha : RowB insE w.heap.size w pa la) (hb : RowB insE w.heap.size w pb lb) (hla : la.length ≤ 1000) (hlb : lb.length ≤ 1000) (hpa : ∀ a,pa = some a → a.block < w.heap.size) (hpb : ∀ a,pb = some a → a.block < w.heap.size) :
  Calls Tryz.prog 23 #[.slice pa la.length ca,.slice pb lb.length cb] w fun e w' => (∃ vs : List Value,e = .returned (.agg vs.toArray) ∧ PrgX w'.heap.size w' vs (twoP la lb)) ∧ Below w.heap.size w w' := by
 refine calls_of_M (S := sg 11) (sgOk _) (args := [.slice pa la.length ca,.slice pb lb.length cb]) (.c .p .p) Tryz.func23 rfl rfl (Nat.le_of_ble_eq_true rfl) rfl ?_
 obtain ⟨L,hL⟩ : ∃ L,L = w.heap.size := ⟨_,rfl⟩
 refine ⟨Unit,fun _ => ⟨[(0,.slice pa la.length ca),(1,.slice pb lb.length cb),(4,At0 L)],[]⟩,fun _ X => (∃ cs : Array Value,X.heap[L]? = some (.cells cs 64 (0,0)) ∧ cs.size = 10) ∧ X.heap.size = L + 1 ∧ Below w.heap.size w X,⟨(),⟨.cons rfl (.cons rfl (.cons (by rw [hL]; rfl) .nil)),rfl⟩,⟨_,by rw [hL]; exact hnew w _,by kernel_rfl⟩,by rw [World.size_alloc,hL],(Below.refl _ w).alloc (Nat.le_refl _) _⟩,?_⟩
 rintro _ W ⟨⟨cs,fL,hcs⟩,sW,hbW⟩
 obtain ⟨W1,hW1⟩ : ∃ W1,W1 = W.alloc (.cells #[strV [120],strV [121]] 9) := ⟨_,rfl⟩
 obtain ⟨W2,hW2⟩ : ∃ W2,W2 = W1.alloc (.cells #[u8 0,u8 0] 5) := ⟨_,rfl⟩
 obtain ⟨W3,hW3⟩ : ∃ W3,W3 = W2.alloc (.cells #[.slice pa la.length ca,.slice pb lb.length cb] 71) := ⟨_,rfl⟩
 have hb1 : Below W.heap.size W W1 := by rw [hW1]; exact (Below.refl _ W).alloc (Nat.le_refl _) _
 have hb2 : Below W1.heap.size W1 W2 := by rw [hW2]; exact (Below.refl _ W1).alloc (Nat.le_refl _) _
 have hb3 : Below W2.heap.size W2 W3 := by rw [hW3]; exact (Below.refl _ W2).alloc (Nat.le_refl _) _
 have f1 : W1.heap[W.heap.size]? = some (.cells #[strV [120],strV [121]] 9 (0,0)) := by rw [hW1]; exact hnew W _
 have f2 : W2.heap[W1.heap.size]? = some (.cells #[u8 0,u8 0] 5 (0,0)) := by rw [hW2]; exact hnew W1 _
 have f3 : W3.heap[W2.heap.size]? = some (.cells #[.slice pa la.length ca,.slice pb lb.length cb] 71 (0,0)) := by rw [hW3]; exact hnew W2 _
 have s1 : W1.heap.size = L + 2 := by rw [hW1,World.size_alloc,sW]
 have s2 : W2.heap.size = L + 3 := by rw [hW2,World.size_alloc,s1]
 have s3 : W3.heap.size = L + 4 := by rw [hW3,World.size_alloc,s2]
 refine ⟨⟨by decide,by decide,rfl⟩,[strV [120],strV [121]],rfl,?_⟩
 have hW1' : W.alloc (.cells [strV [120],strV [121]].toArray 9) = W1 := hW1.symm
 rw [hW1']
 refine ⟨⟨by decide,by decide,rfl⟩,[u8 0,u8 0],rfl,?_⟩
 have hW2' : W1.alloc (.cells [u8 0,u8 0].toArray 5) = W2 := hW2.symm
 rw [hW2']
 refine ⟨⟨by decide,by decide,rfl⟩,[.slice pa la.length ca,.slice pb lb.length cb],rfl,?_⟩
 have hW3' : W2.alloc (.cells [.slice pa la.length ca,.slice pb lb.length cb].toArray 71) = W3 := hW3.symm
 rw [hW3']
 obtain ⟨vs,hvs⟩ : ∃ vs,vs = prgCells (twoP la lb) (some ⟨W.heap.size,0,none⟩) 2 (some ⟨W1.heap.size,0,none⟩) 2 (some ⟨W2.heap.size,0,none⟩) 2 none 0 := ⟨_,rfl⟩
 refine ⟨vs,by rw [hvs]; rfl,?_⟩
 have hb12 := hb1.trans (hb2.mono hb1.size)
 have hbW3 : Below W.heap.size W W3 := hb12.trans (hb3.mono (Nat.le_trans hb1.size hb2.size))
 have fL3 : W3.heap[L]? = some (.cells cs 64 (0,0)) := block_below hbW3 fL
 have hlen : vs.length = 10 := by rw [hvs]; rfl
 have hone : vs.all Value.oneCell' = true := by rw [hvs]; rfl
 refine store_box (v := .agg vs.toArray) (ttOk.get 64 _ rfl) fL3 hlen hcs hone ?_
 obtain ⟨Y,hY⟩ : ∃ Y,Y = W3.setRow L (Value.agg vs.toArray).cells := ⟨_,rfl⟩
 rw [← hY]
 have fY : Y.heap[L]? = some (.cells vs.toArray 64 (0,0)) := by rw [hY]; exact setRow_new fL3
 have oY : ∀ k,k ≠ L → Y.heap[k]? = W3.heap[k]? := fun k hk => by rw [hY]; exact setRow_old hk
 have sY : Y.heap.size = W3.heap.size := by rw [hY]; simp
 have bY : Below w.heap.size w Y := by rw [hY]; exact below_setRow (hbW.trans (hbW3.mono hbW.size)) (by omega) _
 refine ⟨vs,hlen,cells_block fY,⟨vs,rfl,?_⟩,bY⟩
 have g1 : Y.heap[W.heap.size]? = some (.cells #[strV [120],strV [121]] 9 (0,0)) := (oY _ (by omega)).trans (block_below hb3 (block_below hb2 f1))
 have g2 : Y.heap[W1.heap.size]? = some (.cells #[u8 0,u8 0] 5 (0,0)) := (oY _ (by omega)).trans (block_below hb3 f2)
 have g3 : Y.heap[W2.heap.size]? = some (.cells #[.slice pa la.length ca,.slice pb lb.length cb] 71 (0,0)) := (oY _ (by omega)).trans f3
 have sY4 : w.heap.size ≤ Y.heap.size := bY.size
 have r3 : RowB thrE Y.heap.size Y (some ⟨W2.heap.size,0,none⟩) [(la,pa,ca),(lb,pb,cb)] := .inr ⟨W2.heap.size,0,rfl,hlt g3,cells_block g3⟩
 have rows : ∀ x ∈ [((la,pa,ca) : ThrR),(lb,pb,cb)],RowB insE Y.heap.size Y x.2.1 x.1 ∧ ∀ a,x.2.1 = some a → a.block < Y.heap.size := by
  simp only [List.mem_cons,List.not_mem_nil,or_false,forall_eq_or_imp,forall_eq]
  exact ⟨⟨(ha.below bY).mono sY4,fun a h => Nat.lt_of_lt_of_le (hpa a h) sY4⟩,(hb.below bY).mono sY4,fun a h => Nat.lt_of_lt_of_le (hpb a h) sY4⟩
 refine ⟨⟨⟨by show 1 ≤ _; decide,by show 2 ≤ _; decide,fun s hs => ?_,by show 2 ≤ _; decide,by show 2 ≤ _; decide,fun l hl => ?_⟩,some ⟨W.heap.size,0,none⟩,2,some ⟨W1.heap.size,0,none⟩,2,some ⟨W2.heap.size,0,none⟩,2,none,0,hvs,?_,?_,?_,?_,?_⟩,?_,?_⟩
 ·have hs : s = [120] ∨ s = [121] := by simpa [twoP] using hs
  rcases hs with rfl | rfl <;> decide
 ·have hl : l = la ∨ l = lb := by simpa [twoP] using hl
  rcases hl with rfl | rfl <;> omega
 ·exact .inr ⟨W.heap.size,0,rfl,hlt g1,cells_block g1⟩
 ·exact .inr ⟨W1.heap.size,0,rfl,hlt g2,cells_block g2⟩
 ·exact ⟨[(la,pa,ca),(lb,pb,cb)],rfl,r3,fun x hx => (rows x hx).1⟩
 ·exact .mk none [] (by decide) 0 0 (.inl rfl) (fun _ => none) (fun _ => 0) (fun i hi => by simp at hi) (fun i hi => by simp at hi)
 ·exact Nat.le_refl 2
 ·exact ⟨some ⟨W2.heap.size,0,none⟩,2,by rw [hvs]; rfl,[(la,pa,ca),(lb,pb,cb)],rfl,r3,rows⟩
 ·exact ⟨some ⟨W1.heap.size,0,none⟩,2,by rw [hvs]; rfl,.inr ⟨W1.heap.size,0,rfl,hlt g2,cells_block g2⟩⟩
end
theorem exC_reg (x : ExD) (q : Option Addr) (c : Nat) {i : Nat} (hi : i < 32) : (exC x q c)[295 + i]? = some (u8 (x.regs i)) := by
 obtain ⟨A,T,hA,hE⟩ := ex_regs x q c []
 have := hE x.regs
 rw [List.append_nil] at this
 show (exC { x with regs := x.regs } q c)[295 + i]? = _
 rw [this,get_app hA,List.getElem?_append_left (by rw [seg_len]; exact hi),seg_at (n := 32) (fun i => u8 (x.regs i)) hi]
end Go.Proofs.YtkpcgpmimejimaaGreatDoor
namespace Go.Proofs.YtkpcgpmimejimaaGreatDoor
open Go.Vc Go.RowKit Go.Sei
section
variable {w : World} {B n : Nat} {pc : List Value} {p : Prg} {V : List UInt8} {a b : UInt8}
theorem foundL_snoc (l : List ExD) (x : ExD) : foundL (l ++ [x]) a b = foundL l a b ++ if (decide (x.regs 0 = a) && decide (x.regs 8 = b)) = true then [x] else [] := by
 unfold foundL
 rw [List.filter_append,List.filter_cons,List.filter_nil]
theorem found_c (hB : B ≤ w.heap.size) (hP : PrgX B w pc p) (hG : GlobE w) (hQ : CandQ p n V 50) :
  Calls Tryz.prog 22 #[.agg pc.toArray,u8 a,u8 b] w fun e w' => (∃ (xs : List exE3) (q : Option Addr) (c : Nat),e = .returned (.slice q xs.length c) ∧ xs.map (·.1) = foundL (candsP p V) a b ∧ SlR exE w' q xs ∧ ∀ x ∈ xs,SlR evE w' x.2.1 x.1.ev) ∧ Below w.heap.size w w' := by
 refine calls_of_M (S := sg 45) (sgOk _) (args := [.agg pc.toArray,u8 a,u8 b]) (.c .p (.c .p (.c .p (.c .p .p)))) Tryz.func22 rfl rfl (Nat.le_of_ble_eq_true rfl) rfl ?_
 obtain ⟨L,hL⟩ : ∃ L,L = w.heap.size := ⟨_,rfl⟩
 have hpc := hP.v.size
 refine ⟨Unit,fun _ => ⟨[(1,u8 a),(2,u8 b),(3,At0 L)],[]⟩,fun _ X => X.heap[L]? = some (.cells pc.toArray 64 (0,0)) ∧ Below w.heap.size w X,⟨(),⟨.cons rfl (.cons rfl (.cons (by rw [hL]; rfl) .nil)),rfl⟩,by rw [hL]; exact hnew w _,(Below.refl _ w).alloc (Nat.le_refl _) _⟩,?_⟩
 rintro _ X ⟨f0,hbX⟩
 refine ⟨Unit,fun _ => ⟨[(1,u8 a),(2,u8 b),(3,At0 L),(7,.slice none 0 0)],[]⟩,fun _ Y => X = Y,⟨(),⟨.cons rfl (.cons rfl (.cons rfl (.cons rfl .nil))),rfl⟩,rfl⟩,?_⟩
 rintro _ _ rfl
 have hXs := hbX.size
 refine ⟨List exE3 × Option Addr × Nat,fun s => ⟨[(1,u8 a),(2,u8 b),(7,.slice none 0 0),(8,.slice s.2.1 s.1.length s.2.2)],[]⟩,fun s Y => s.1.map (·.1) = candsP p V ∧ OwnS exE 34 X.heap.size Y s.2.1 s.2.2 s.1 ∧ (∀ x ∈ s.1,OwnS evE 52 X.heap.size Y x.2.1 x.2.2 x.1.ev) ∧ Below w.heap.size w Y,?_,?_⟩
 ·refine ⟨pc,hpc,cells_block f0,hlt f0,?_⟩
  refine Calls.mono (Cands_c (Nat.le_trans hB hXs) (hP.below (hbX.mono hB)) (hG.below hbX) hQ) ?_
  rintro e Y ⟨⟨xs,q,c,rfl,h1,h2,h3⟩,hbY⟩
  exact ⟨(xs,q,c),⟨.cons rfl (.cons rfl (.cons rfl (.cons rfl .nil))),rfl⟩,h1,h2,h3,hbX.trans (hbY.mono hXs)⟩
 rintro ⟨xs,q,c⟩ Y ⟨hxs,oX,hev,hbY⟩
 dsimp only at hxs oX hev ⊢
 obtain ⟨D,hD⟩ : ∃ D,D = Y.heap.size := ⟨_,rfl⟩
 have hxl : xs.length ≤ 30000 := by
  have := congrArg List.length hxs
  rw [List.length_map] at this
  have := hQ.len
  omega
 refine ⟨List exE3 × Option Addr × Nat,fun s => ⟨[(7,.slice s.2.1 s.1.length s.2.2)],[]⟩,fun s Z => s.1.map (·.1) = foundL (candsP p V) a b ∧ (∀ x ∈ s.1,x ∈ xs) ∧ OwnS exE 34 D Z s.2.1 s.2.2 s.1 ∧ Below D Y Z,?_,?_⟩
 ·refine ⟨Nat × List exE3 × Option Addr × Nat,fun s => ⟨[(1,u8 a),(2,u8 b),(7,.slice s.2.2.1 s.2.1.length s.2.2.2),(17,.slice q xs.length c),(18,i64 xs.length),(19,i64 (s.1 : Nat))],[]⟩,
   fun s Z => s.1 ≤ xs.length ∧ s.2.1.map (·.1) = foundL ((xs.take s.1).map (·.1)) a b ∧ (∀ x ∈ s.2.1,x ∈ xs) ∧ s.2.1.length ≤ s.1 ∧ OwnS exE 34 D Z s.2.2.1 s.2.2.2 s.2.1 ∧ Below D Y Z,fun s => xs.length - s.1,(0,[],none,0),
   ⟨.cons rfl (.cons rfl (.cons rfl (.cons rfl (.cons rfl (.cons rfl .nil))))),rfl⟩,⟨Nat.zero_le _,rfl,fun x hx => (by cases hx),Nat.le_refl _,OwnS.nil,by rw [hD]; exact Below.refl _ _⟩,?_⟩
  rintro ⟨k,out,po,co⟩ Z ⟨hk,hout,hmem,hlo,oZ,hbZ⟩
  dsimp only at hk hout hmem hlo oZ ⊢
  have hZs : D ≤ Z.heap.size := by have := hbZ.size; omega
  refine And.intro (fun hc => ?_) (fun hc => ?_)
  ·have hc : (k : Int) < (xs.length : Int) := of_decide_eq_true hc
   have hkl : k < xs.length := by omega
   obtain ⟨bx,ox,hq,hbx,hat⟩ := oX.row.at hkl
   obtain ⟨y,hy⟩ : ∃ y,xs[k] = y := ⟨_,rfl⟩
   have hym : y ∈ xs := by rw [← hy]; exact List.getElem_mem hkl
   have htk : (xs.take (k + 1)).map (·.1) = (xs.take k).map (·.1) ++ [y.1] := by rw [List.take_succ_eq_append_getElem hkl,hy,List.map_append]; rfl
   have hatk := hat k hkl
   rw [hy] at hatk
   have hatk : Cells Y ⟨bx,ox + k * 333,none⟩ (exC y.1 y.2.1 y.2.2) := hatk
   subst hq
   refine ⟨k,rfl,hkl,?_⟩
   refine ⟨exC y.1 y.2.1 y.2.2,exC_len _ _ _,cells_belowB hbZ (by show bx < D; omega) hatk,by show bx < _; omega,?_⟩
   refine store_new (X := Z) (v := .agg (exC y.1 y.2.1 y.2.2).toArray) (ttOk.get 34 _ rfl) (exC_len _ _ _) ztex_len (exC_one _ _ _) fun U hbU fU sU => ?_
   have fU : ExH U Z.heap.size y.1 y.2.1 y.2.2 := fU
   have oU := oZ.below hbU
   have hbU2 := hbZ.trans (hbU.mono hZs)
   have hUs : D ≤ U.heap.size := by omega
   have e0 : (exC y.1 y.2.1 y.2.2)[295]? = some (u8 (y.1.regs 0)) := exC_reg y.1 y.2.1 y.2.2 (i := 0) (by decide)
   have e8 : (exC y.1 y.2.1 y.2.2)[303]? = some (u8 (y.1.regs 8)) := exC_reg y.1 y.2.1 y.2.2 (i := 8) (by decide)
   have skip : (decide (y.1.regs 0 = a) && decide (y.1.regs 8 = b)) = false → (k + 1 ≤ xs.length ∧ out.map (·.1) = foundL ((xs.take (k + 1)).map (·.1)) a b ∧ (∀ x ∈ out,x ∈ xs) ∧ out.length ≤ k + 1 ∧ OwnS exE 34 D U po co out ∧ Below D Y U) := fun h =>
    ⟨hkl,by rw [htk,foundL_snoc,h,hout]; simp,hmem,by omega,oU,hbU2⟩
   refine ⟨0,rfl,by decide,?_⟩
   refine ⟨0,rfl,by decide,?_⟩
   refine ⟨u8 (y.1.regs 0),cells_at (cells_block fU) e0,?_⟩
   refine And.intro (fun h1 => ?_) (fun h1 => ?_)
   ·have h1 : y.1.regs 0 = a := u8_eq.1 (of_decide_eq_true h1)
    refine ⟨1,rfl,by decide,?_⟩
    refine ⟨0,rfl,by decide,?_⟩
    refine ⟨u8 (y.1.regs 8),cells_at (cells_block fU) e8,?_⟩
    refine And.intro (fun h2 => ?_) (fun h2 => ?_)
    ·have h2 : y.1.regs 8 = b := u8_eq.1 (of_decide_eq_true h2)
     have hp : (decide (y.1.regs 0 = a) && decide (y.1.regs 8 = b)) = true := by rw [decide_eq_true h1,decide_eq_true h2]; rfl
     refine ⟨exC y.1 y.2.1 y.2.2,exC_len _ _ _,cells_block fU,hlt fU,?_⟩
     refine ⟨⟨by decide,by decide,ztex_len⟩,exE.enc y,fill_one (exC_len _ _ _) ztex_len,?_⟩
     have hb2 : Below U.heap.size U (U.alloc (.cells (exE.enc y).toArray 34)) := (Below.refl _ _).alloc (Nat.le_refl _) _
     have sb2 := hb2.size
     unfold opsE stepE
     show SatR _ _
     refine app_own Tryz.underlying55 (ttOk.get 34 _ rfl) rfl rfl ztex_len (oU.below hb2) (news := [y]) rfl (one_new exE y) (by omega) (by show out.length + 1 ≤ _; omega) (by show (out.length + 1) * 2416 ≤ _; omega) fun p' c' S oS gS hbS hat2 => ?_
     refine ⟨((k + 1 : Nat) : Int),(wrap_i64 (by omega)).trans (by omega),?_⟩
     exact ⟨(k + 1,out ++ [y],p',c'),⟨.cons rfl (.cons rfl (.cons rfl (.cons rfl (.cons rfl (.cons rfl .nil))))),rfl⟩,⟨hkl,by rw [htk,foundL_snoc,if_pos hp,List.map_append,hout]; rfl,fun x hx => (by
      rcases List.mem_append.1 hx with h | h
      ·exact hmem x h
      ·rw [List.mem_singleton.1 h]; exact hym),by rw [List.length_append]; show _ + 1 ≤ _; omega,oS,(hbU2.trans (hb2.mono hUs)).trans hbS⟩,by show xs.length - (k + 1) < xs.length - k; omega⟩
    ·have h2 : ¬ y.1.regs 8 = b := fun e2 => (of_decide_eq_false h2) (by rw [e2])
     refine ⟨((k + 1 : Nat) : Int),(wrap_i64 (by omega)).trans (by omega),?_⟩
     exact ⟨(k + 1,out,po,co),⟨.cons rfl (.cons rfl (.cons rfl (.cons rfl (.cons rfl (.cons rfl .nil))))),rfl⟩,skip (by rw [decide_eq_false h2,Bool.and_false]),by show xs.length - (k + 1) < xs.length - k; omega⟩
   ·have h1 : ¬ y.1.regs 0 = a := fun e2 => (of_decide_eq_false h1) (by rw [e2])
    refine brF ?_
    refine ⟨((k + 1 : Nat) : Int),(wrap_i64 (by omega)).trans (by omega),?_⟩
    exact ⟨(k + 1,out,po,co),⟨.cons rfl (.cons rfl (.cons rfl (.cons rfl (.cons rfl (.cons rfl .nil))))),rfl⟩,skip (by rw [decide_eq_false h1]; rfl),by show xs.length - (k + 1) < xs.length - k; omega⟩
  ·have hc : ¬ (k : Int) < (xs.length : Int) := of_decide_eq_false hc
   obtain rfl : k = xs.length := by omega
   rw [List.take_length,hxs] at hout
   exact ⟨(out,po,co),⟨.cons rfl .nil,rfl⟩,hout,hmem,oZ,hbZ⟩
 rintro ⟨out,po,co⟩ Z ⟨hout,hmem,oZ,hbZ⟩
 dsimp only at hout hmem oZ ⊢
 have hwY := hbY.size
 exact ⟨⟨out,po,co,rfl,hout,oZ.row,fun x hx => ((hev x (hmem x hx)).below (hbZ.mono (by omega))).row⟩,hbY.trans (hbZ.mono (by omega))⟩
end
end Go.Proofs.YtkpcgpmimejimaaGreatDoor
namespace Go.Proofs.YtkpcgpmimejimaaGreatDoor
open Go.Vc Go.RowKit Go.Sei
theorem wrapU8 (u : Nat) : IntKind.u8.wrap (u : Int) = ((UInt8.ofNat u).toNat : Int) := by
 have := UInt8.toNat_ofNat' (n := u)
 simp [IntKind.wrap,IntKind.bits,IntKind.signed] at this ⊢
 try omega
theorem eq_boolM (d : Nat) (a b : Bool) (w : World) : (Op.equalIn (d + 1) 4 (.bool a) (.bool b)).run Tryz.prog w = .ok (decide (a = b)) w := by
 simp only [Op.equalIn,Sem.run_bind,run_underlying Tryz.underlying4,Result.andThen_ok,Sem.run_pure]
 cases a <;> cases b <;> rfl
theorem neq_boolM (x y : Operand) (a b : Bool) (w : World) : (do eqGuard .neq 4 x y (.bool a) (.bool b); binOp .neq 4 (.bool a) (.bool b)).run Tryz.prog w = .ok (.bool (!decide (a = b))) w := by
 have h : (Op.equal 4 (.bool a) (.bool b)).run Tryz.prog w = .ok (decide (a = b)) w := eq_boolM 9999 a b w
 have h1 : (eqGuard .neq 4 x y (.bool a) (.bool b)).run Tryz.prog w = .ok () w := rfl
 rw [Sem.run_bind,h1]
 simp only [Result.andThen_ok,binOp,Sem.run_bind,h,Sem.run_pure]
section
variable {w : World} {c cw : Nat} {x : ExD} {q pw : Option Addr} {ws : List UInt8}
theorem saysL_at (h : saysL x ws = true) {i : Nat} (hi : i < ws.length) : brokM (i + 1) x = ws[i].toNat ∧ holdsM (i + 1) x = decide (ws[i] = 0) := by
 unfold saysL at h
 rw [List.all_eq_true] at h
 have := h i (List.mem_range.2 hi)
 rw [Bool.and_eq_true,decide_eq_true_eq,beq_iff_eq,List.getD_eq_getElem?_getD,List.getElem?_eq_getElem hi] at this
 exact this
theorem says_c (hv : ExV w x q) (hT : Tz64M w) (hw : SlR byteE w pw ws) (hs : saysL x ws = true) (h6 : ws.length ≤ 6) : Calls Tryz.prog 26 #[.agg (exC x q c).toArray,.slice pw ws.length cw] w fun e w' => e = .returned (.bool true) ∧ Below w.heap.size w w' := by
 refine calls_of_M (S := sg 32) (sgOk _) (args := [.agg (exC x q c).toArray,.slice pw ws.length cw]) (.c .p (.c .p .p)) Tryz.func26 rfl rfl (Nat.le_of_ble_eq_true rfl) rfl ?_
 obtain ⟨L,hL⟩ : ∃ L,L = w.heap.size := ⟨_,rfl⟩
 refine ⟨Unit,fun _ => ⟨[(1,.slice pw ws.length cw),(2,At0 L)],[]⟩,fun _ X => ExH X L x q c ∧ Below w.heap.size w X,⟨(),⟨.cons rfl (.cons (by rw [hL]; rfl) .nil),rfl⟩,by rw [hL]; exact hnew w _,(Below.refl _ w).alloc (Nat.le_refl _) _⟩,?_⟩
 rintro _ X ⟨fX,hbX⟩
 refine ⟨Unit,fun _ => ⟨[],[]⟩,fun _ Y => Below w.heap.size w Y,?_,?_⟩
 ·refine ⟨Nat,fun k => ⟨[(2,At0 L),(7,.slice pw ws.length cw),(8,i64 ws.length),(9,i64 (k : Nat))],[]⟩,fun k Y => k ≤ ws.length ∧ ExH Y L x q c ∧ Below w.heap.size w Y,fun k => ws.length - k,0,
   ⟨.cons rfl (.cons rfl (.cons rfl (.cons rfl .nil))),rfl⟩,⟨Nat.zero_le _,fX,hbX⟩,?_⟩
  clear fX hbX
  rintro k Y ⟨hk,fY,hbY⟩
  dsimp only
  refine And.intro (fun hc => ?_) (fun hc => ?_)
  ·have hc : (k : Int) < (ws.length : Int) := of_decide_eq_true hc
   have hkl : k < ws.length := by omega
   obtain ⟨h1,h2⟩ := saysL_at hs hkl
   obtain ⟨bw,ow,hq,hbw,hat⟩ := (hw.below hbY).at hkl
   obtain ⟨v,hv2⟩ : ∃ v,ws[k] = v := ⟨_,rfl⟩
   have hatk := hat k hkl
   rw [hv2] at hatk h1 h2
   have hm : (UInt8.ofNat (k + 1)).toNat = k + 1 := by
    rw [UInt8.toNat_ofNat']
    exact Nat.mod_eq_of_lt (by omega)
   subst hq
   refine ⟨k,rfl,hkl,?_⟩
   refine ⟨u8 v,by have := cells_at hatk (i := 0) (v := u8 v) rfl; exact this,?_⟩
   refine ⟨((k + 1 : Nat) : Int),(wrap_i64 (by omega)).trans (by omega),?_⟩
   refine ⟨((UInt8.ofNat (k + 1)).toNat : Int),wrapU8 _,?_⟩
   refine ⟨exC x q c,exC_len _ _ _,cells_block fY,hlt fY,?_⟩
   refine Calls.mono (Broken_c (m := UInt8.ofNat (k + 1)) (hv.below hbY) (hT.below hbY)) ?_
   rintro e Z ⟨rfl,hbZ⟩
   rw [hm,h1]
   have bZ := hbY.trans (hbZ.mono hbY.size)
   have fZ := block_below hbZ fY
   have hvv : UInt8.ofNat v.toNat = v := UInt8.ofNat_toNat
   rw [hvv]
   refine And.intro (fun h => ?_) (fun _ => ?_)
   ·have h : (!decide ((v.toNat : Int) = (v.toNat : Int))) = true := h
    rw [decide_eq_true rfl] at h
    cases h
   refine ⟨((k + 1 : Nat) : Int),(wrap_i64 (by omega)).trans (by omega),?_⟩
   refine ⟨((UInt8.ofNat (k + 1)).toNat : Int),wrapU8 _,?_⟩
   refine ⟨exC x q c,exC_len _ _ _,cells_block fZ,hlt fZ,?_⟩
   refine Calls.mono (Holds_c (m := UInt8.ofNat (k + 1)) (hv.below bZ) (hT.below bZ)) ?_
   rintro e V ⟨rfl,hbV⟩
   rw [hm,h2]
   have e0 : decide (v = 0) = decide ((v.toNat : Int) = 0) := decide_eq_decide.2 (u8_eq (x := v) (y := 0)).symm
   rw [e0]
   refine ⟨_,fun w => neq_boolM _ _ _ _ w,?_⟩
   refine And.intro (fun h => ?_) (fun _ => ?_)
   ·have h : (!decide (decide ((v.toNat : Int) = 0) = decide ((v.toNat : Int) = 0))) = true := h
    rw [decide_eq_true rfl] at h
    cases h
   refine ⟨((k + 1 : Nat) : Int),(wrap_i64 (by omega)).trans (by omega),?_⟩
   exact ⟨k + 1,⟨.cons rfl (.cons rfl (.cons rfl (.cons rfl .nil))),rfl⟩,⟨hkl,block_below hbV fZ,bZ.trans (hbV.mono bZ.size)⟩,by show ws.length - (k + 1) < ws.length - k; omega⟩
  ·exact ⟨(),⟨.nil,rfl⟩,hbY⟩
 rintro _ Y hbY
 exact ⟨rfl,hbY⟩
theorem few_c {n : Nat} {cs : List Value} (hcs : cs.length = 333) (h0 : cs[0]? = some (.slice q n c)) : Calls Tryz.prog 5 #[.agg cs.toArray] w fun e w' => e = .returned (.bool (decide (n ≤ 16))) ∧ Below w.heap.size w w' := by
 refine calls_of_E (S := sg 7) (sgOk _) (args := [.agg cs.toArray]) Tryz.func5 rfl rfl (Nat.le_of_ble_eq_true rfl) rfl ?_
 have f := hnew w (.cells cs.toArray 34)
 have hb : Below w.heap.size w (w.alloc (.cells cs.toArray 34)) := (Below.refl _ w).alloc (Nat.le_refl _) _
 refine ⟨.slice q n c,cells_at (cells_block f) (i := 0) h0,?_⟩
 exact ⟨rb (decide_eq_decide.2 (by show (n : Int) ≤ 16 ↔ _; omega)),hb⟩
end
end Go.Proofs.YtkpcgpmimejimaaGreatDoor
