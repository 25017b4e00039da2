/- For every input, seisinlaw10.ModelAtomic returns true and its arguments read afterwards as they read before. Conditions: as the given card has them (package-level variables start as the program's text lays them; the copy of the program is pruned to the packages that the seat loads); none is added. -/
import Derived.Test.YtkpaomeeknegpaaGreatDoorQ1
import Derived.Test.YtkpaomeeknegpaaGreatDoorQ8
import Derived.Test.YtkpaomeeknegpaaGreatDoorQKRowMAc
import Derived.Test.YtkpaomeeknegpaaGreatDoorTie
import Derived.Test.YtkpaomeeknegpaaGreatDoorCards
set_option linter.unusedSimpArgs false
set_option linter.unusedVariables false
namespace Go.Proofs.YtkpaomeeknegpaaGreatDoor
open Go.Vc Go.Sei
open Go.ChangeShapes Go.WideShapes Go.ChangeAt Go.RowKit
set_option maxRecDepth 100000 in
theorem modelAtomic_lifted (os:Os) (started:os.Started) (H:Type) (enc:TypeId×Value->H) :
  ReturnsInHanded {} Tryz.checked os 5 .any (fun w args=>(Rows.modelAtomicSpec.pre enc Tryz.prog Tryz.f5 [] false w args/\laidMetH Tryz.prog zbb w)/\sizedMet enc Tryz.prog Tryz.f5 (OpenSpec.ofChange Rows.modelAtomicSpec) false w args)
   (Rows.modelAtomicSpec.post enc Tryz.prog Tryz.f5 false true false false):=by
 refine zeU (C:=Tryz.checked) (X:=fun w _=>laidMetH Tryz.prog zbb w) (fun _ _ _ hh h=>h.of_heap hh) zpi started (by kernel_rfl) Tryz.func5
  (ChangeSpec.witness_shaped (enc:=enc) (C:=Tryz.checked) (os:=os) (X:=fun w _=>laidMetH Tryz.prog zbb w) false (zhC os) #[u8 0,u8 0,u8 0,u8 0] 8 rfl (World.shaped_of_RefB (by kernel_rfl) (by kernel_rfl)) (by kernel_rfl) (by kernel_rfl) (by kernel_rfl) (zhB os _)) ?_
 intro W base args ds gs before hval0 hW hL hsh hz;have hval:∀ (j:Nat) t v,Tryz.f5.params[j]?=some t->args[j]?=some v->Value.okWide Tryz.prog W .any base t v:=hval0;have hW':=hW;obtain⟨p,q,hA0,hV,rfl,hfz,hnd⟩:=hW;have hA:DataW.TrodAll enc Tryz.prog W 0 (fun _=>true) true Tryz.f5.params.toList args.toList ds p:=hA0;rw [Tryz.params5] at hA hval;obtain⟨v0,vs0,d0,ds0,p0,q0,hargs0,rfl,rfl,h0,r0⟩:=trodAll_cons hA;obtain⟨v1,vs1,d1,ds1,p1,q1,hargs1,rfl,rfl,h1,r1⟩:=trodAll_cons r0;obtain⟨v2,vs2,d2,ds2,p2,q2,hargs2,rfl,rfl,h2,r2⟩:=trodAll_cons r1;obtain⟨v3,vs3,d3,ds3,p3,q3,hargs3,rfl,rfl,h3,r3⟩:=trodAll_cons r2;obtain⟨e0,e1,e2⟩:=trodAll_nil r3;subst e0 e1 e2;obtain rfl:args = #[v0,v1,v2,v3]:=by cases args;simp_all
 obtain⟨rfl,rfl⟩:=trodVars_none hV;obtain⟨b0,rfl⟩:=zdV Tryz.underlying5 (hval 0 5 v0 rfl rfl);have lt0:∀ x∈p0,x.block<W.heap.size:=by obtain⟨m,hm⟩:=h0;exact DataW.trod_lt m _ _ _ hm
 obtain⟨b1,rfl⟩:=zdV Tryz.underlying5 (hval 1 5 v1 rfl rfl);have lt1:∀ x∈p1,x.block<W.heap.size:=by obtain⟨m,hm⟩:=h1;exact DataW.trod_lt m _ _ _ hm
 obtain⟨b2,rfl⟩:=zdV Tryz.underlying5 (hval 2 5 v2 rfl rfl);have lt2:∀ x∈p2,x.block<W.heap.size:=by obtain⟨m,hm⟩:=h2;exact DataW.trod_lt m _ _ _ hm
 obtain⟨b3,rfl⟩:=zdV Tryz.underlying5 (hval 3 5 v3 rfl rfl);have lt3:∀ x∈p3,x.block<W.heap.size:=by obtain⟨m,hm⟩:=h3;exact DataW.trod_lt m _ _ _ hm
 obtain⟨ds',gs',bf',hZ,hwt⟩:=hz;obtain⟨p',q',hA1,_,_,_,_⟩:=hZ;have hA2:DataW.TrodAll enc Tryz.prog W 0 (fun _=>true) true Tryz.f5.params.toList [u8 b0,u8 b1,u8 b2,u8 b3] ds' p':=hA1;rw [Tryz.params5] at hA2 hwt;obtain⟨u0,us0,t0,ts0,o0,oo0,z0,rfl,rfl,k0,m0⟩:=trodAll_cons hA2;obtain⟨u1,us1,t1,ts1,o1,oo1,z1,rfl,rfl,k1,m1⟩:=trodAll_cons m0;obtain⟨u2,us2,t2,ts2,o2,oo2,z2,rfl,rfl,k2,m2⟩:=trodAll_cons m1;obtain⟨u3,us3,t3,ts3,o3,oo3,z3,rfl,rfl,k3,m3⟩:=trodAll_cons m2;simp only [List.cons.injEq] at z0;obtain⟨rfl,rfl⟩:=z0;simp only [List.cons.injEq] at z1;obtain⟨rfl,rfl⟩:=z1;simp only [List.cons.injEq] at z2;obtain⟨rfl,rfl⟩:=z2;simp only [List.cons.injEq] at z3;obtain⟨rfl,rfl⟩:=z3;refine (zie  ⟨(zcj hL hsh).needs,(zcj hL hsh).t64,(zcj hL hsh).t32⟩).mono fun e W' ⟨he,bel⟩=>?_;subst he;exact⟨_,rfl,_,_,_,[],_,[],hW',trodAll_mk1 (shut_bool Tryz.underlying4 _),(trodAll_cons_mk (Below.trod zbE (by kernel_rfl) (dT (by kernel_rfl)) h0 bel lt0) (trodAll_cons_mk (Below.trod zbE (by kernel_rfl) (dT (by kernel_rfl)) h1 bel lt1) (trodAll_cons_mk (Below.trod zbE (by kernel_rfl) (dT (by kernel_rfl)) h2 bel lt2) (trodAll_cons_mk (Below.trod zbE (by kernel_rfl) (dT (by kernel_rfl)) h3 bel lt3) trodAll_mk0)))),rfl,bel.frame _,fun h=>by cases h⟩
theorem modelAtomic_holds:Rows.ModelAtomicSaid :=
 OpenClaim.holds_of_wide 5 Tryz.f5 rfl rfl rfl rfl rfl rfl rfl ⟨rfl,rfl,rfl,rfl,rfl⟩ rfl rfl rfl rfl rfl (by kernel_rfl) Tryz.func5 zhs
  (dT (by kernel_rfl)) (by unfold Func.isWrapper;first | (rw [if_pos (by decide +kernel)];kernel_rfl) | (rw [if_neg (by decide +kernel)];exact⟨rfl,rfl⟩))
  (fun os started H enc _=>modelAtomic_lifted os started H enc)
theorem modelAtomic_card:Rows.ModelAtomicCardSaid :=
 Claim7.holds_tied_plain_at .later [] [.data, .data, .data] true (true, "cd39d7283224b547121be537d0b2a6b1b11a776030fe68b7e3be140bbcc425ee") false
  modelAtomic_holds (fun _ h=>by cases h) (by kernel_rfl) (fun _ h=>by cases h) modelAtomic_row_tie rfl ⟨rfl,rfl⟩ (by kernel_rfl) rfl
  (fun f fn hf hfn=>by
   obtain rfl : f = 5 := Option.some.inj ((show Tryz.prog.funcNamed "seisin/seisinlaw10.ModelAtomic" = some 5 by kernel_rfl).symm.trans hf) |>.symm
   obtain rfl:fn=Tryz.f5:=(Option.some.inj (Tryz.func5.symm.trans hfn)).symm;exact⟨by kernel_rfl,fun j t ht=>by
    rw [Tryz.params5] at ht;rcases j with _ | _ | _ | _ | j
    ·obtain rfl:t=5:=(by simpa using ht.symm);exact (show Tryz.prog.wantsStandIn 5=false by kernel_rfl)
    ·obtain rfl:t=5:=(by simpa using ht.symm);exact (show Tryz.prog.wantsStandIn 5=false by kernel_rfl)
    ·obtain rfl:t=5:=(by simpa using ht.symm);exact (show Tryz.prog.wantsStandIn 5=false by kernel_rfl)
    ·obtain rfl:t=5:=(by simpa using ht.symm);exact (show Tryz.prog.wantsStandIn 5=false by kernel_rfl)
    ·simp at ht⟩)
  (by kernel_rfl)
#print axioms modelAtomic_card
end Go.Proofs.YtkpaomeeknegpaaGreatDoor
